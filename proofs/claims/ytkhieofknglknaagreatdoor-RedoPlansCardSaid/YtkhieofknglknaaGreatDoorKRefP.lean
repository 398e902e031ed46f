/- RedoEvery, plain: the disk ahead of all; one more time; the last time. -/
import Derived.Test.YtkhieofknglknaaGreatDoorKLawW
import Derived.Test.YtkhieofknglknaaGreatDoorKLogP
import Derived.Test.YtkhieofknglknaaGreatDoorKApplyP
namespace Go.Proofs.YtkhieofknglknaaGreatDoor
open Go.RowKit

/-- nothing waits -/
structure Quiet (D : Dk) : Prop where
  sane : Sane D 0
  waits : D.waits = []
section
variable {D E : Dk} {k : Nat}
theorem Quiet.same (h : Quiet D) (h1 : E.waits = D.waits) (h2 : E.now = D.now) (h3 : E.lasts = D.lasts) (h4 : E.seq = D.seq) : Quiet E := by
  have hl : lastD E = lastD D := by
    unfold lastD
    rw [h3]
  obtain ⟨s0, c0, c1, c2⟩ := h.sane.chain
  refine ⟨⟨fun x hx => h.sane.nodes x (h1 ▸ hx), by rw [h2, hl, h1]; exact h.sane.now, s0, c0, fun k x hx => c1 k x (h3 ▸ hx), by rw [h1, h4]; exact c2⟩, h1.trans h.waits⟩
theorem Quiet.wrote (h : Quiet D) (n : Int) (a : Int) (data : ByteArray) (m : Nat) : Quiet ((D.writeN n a data m).settle n) := by
  obtain ⟨a, b, _⟩ := ((h.sane.any h.waits n).writeN a data m).settle 0
  exact ⟨a, b⟩
theorem Quiet.settle (h : Quiet D) (n : Int) : Quiet (D.settle n) := h.wrote n 0 ⟨#[]⟩ 0
theorem Quiet.fence (h : Quiet D) (hc : Calm D k) {n : Nat} (hn : n ≤ 16) : Quiet (D.fence n).2 := by
  rw [(hc.fence hn).1]
  exact (h.settle n).same rfl rfl rfl rfl
theorem Quiet.put (h : Quiet D) (hc : Calm D k) {n : Nat} (hn : n ≤ 16) (v : Nat) : Quiet (D.put n v).2 := by
  rw [(hc.put hn v).1]
  exact h.same rfl rfl rfl rfl
theorem Quiet.admit (h : Quiet D) (hc : Calm D k) {n : Nat} (hn : n ≤ 16) {e : Nat} (he : D.last < e) : Quiet (D.admit n e).2 := by
  rw [(hc.admit hn he).1]
  exact h.same rfl rfl rfl rfl
theorem quiet_fmt (h : Quiet D) (hc : Calm D k) : ∀ j, j ≤ 17 → Quiet (D.fmtN j)
  | 0, _ => h
  | j + 1, hj => ((quiet_fmt h hc j (by omega)).fence (fmt_calm hc j (by omega)).1 (by omega)).put ((fmt_calm hc j (by omega)).1.fence (by omega)).2 (by omega) 0
theorem sane_zeros (h : Sane D 0) : ∀ j, Sane (D.zerosN j) 0
  | 0 => h
  | j + 1 => (sane_zeros h j).writeN _ _ _
theorem quiet_lay (h : Quiet D) : Quiet D.layF := by
  obtain ⟨a, b, _⟩ := (sane_zeros h.sane 3).settle 0
  exact Quiet.wrote ⟨a, b⟩ (0 : Nat) 0 (str superL) 1
end
theorem quiet_fresh : Quiet (Dk.fresh 37) := ⟨⟨(fun x hx => by cases hx), rfl, 0, Int.le_refl _, (fun k x hx => by cases hx), Int.le_refl _⟩, rfl⟩
set_option maxRecDepth 100000 in
theorem quiet_format {D : Dk} (h : Quiet D) (hc : Calm D 0) (hl : D.last = 0) : Quiet D.formatF := by
  obtain ⟨f1, f2, f3⟩ := fmt_calm hc 17 (by omega)
  have f2' : (D.fmtN 17).last < 1 := by rw [f2, hl]; omega
  have q1 := (quiet_fmt h hc 17 (by omega)).admit f1 (n := 0) (by omega) f2'
  obtain ⟨a1, a2⟩ := f1.admit (n := 0) (by omega) (e := 1) f2'
  have e : D.formatF = (((D.fmtN 17).admit (0 : Nat) 1).2.layF.fence (0 : Nat)).2 := by unfold Dk.formatF; rw [hl]; rfl
  rw [e]
  generalize ((D.fmtN 17).admit (0 : Nat) 1).2 = E at q1 a2
  exact (quiet_lay q1).fence (lay_calm a2) (by omega)
set_option maxRecDepth 100000 in
theorem quiet_ready : Quiet readyD := by
  have q := quiet_format quiet_fresh calm_fresh fresh_last
  obtain ⟨f1, f2, _⟩ := format_facts calm_fresh fresh_last
  have e1 : readyD = ((Dk.fresh 37).formatF.admit (1 : Nat) 9).2 := rfl
  have hls : (Dk.fresh 37).formatF.last < 9 := by rw [f2]; omega
  rw [e1]
  generalize (Dk.fresh 37).formatF = F at q f1 hls
  exact q.admit f1 (by omega) hls
section
variable {D : Dk} {k t2 ls : Nat} {h l1 l2 l3 : List UInt8} {f : Nat → Im}
theorem open_form (hc : Calm D k) (ht : D.table 1 = 9) : (D.lhead lg0 ⟨9, 1, 0⟩).2 = (D.writeN (1 : Nat) 1 (str hd9) 1).settle (1 : Nat) := by
  rw [(lhead_ok hc (g := lg0) (by decide) ht (by decide) (by decide) hd9_ok).1]
  rfl
theorem put_form1 (hc : Calm D k) (ht : D.table 1 = 9) {g : Lg} (h1 : g.node = 1) (h2 : g.epoch = 9) (h3 : g.base = 1) (i : Im) : (D.put_ g (enOf 1 0 i)) = (0, D.writeN (1 : Nat) 2 (str (recL (rcI 1 i))) 3) := by
  have e := (put_one hc (g := g) (by omega) (by rw [h1, h2]; exact ht) (by omega) (by omega) (x := enOf 1 0 i) rfl (Nat.zero_le _) (entry_size 1 0 i)).1
  rw [e, h1, h3]
  rfl
theorem put_form2 (hc : Calm D k) (ht : D.table 1 = 9) {g : Lg} (h1 : g.node = 1) (h2 : g.epoch = 9) (h3 : g.base = 1) (i : Im) : (D.put_ g (enOf 2 3 i)) = (0, D.writeN (1 : Nat) 5 (str (recL (rcI 2 i))) 3) := by
  have e := (put_one hc (g := g) (by omega) (by rw [h1, h2]; exact ht) (by omega) (by omega) (x := enOf 2 3 i) rfl (show 3 ≤ 4 by decide) (entry_size 2 3 i)).1
  rw [e, h1, h3]
  rfl
theorem sync_formW {g G : Lg} {n : Nat} {E : Dk} (hw : writeR D g = ⟨n, 0, E, G⟩) (hc : Calm E k) (ht : E.table 1 = 9) (h1 : G.node = 1) (h2 : G.epoch = 9) (h3 : G.synced < G.written) : (syncR D g).D = E.settle (1 : Nat) := by
  have b1 := (hc.barrier (n := 1) (by omega) ht (by omega)).1
  have e : syncR D g = ⟨0, 0, (E.barrier (1 : Nat) 9).2, { G with synced := G.written }⟩ := by
    unfold syncR
    rw [hw]
    simp only
    rw [h1, h2, if_neg (by decide), if_neg (by omega), if_neg (by rw [b1]; simp)]
  rw [e, b1]
theorem sync_form1 (v : View D k 9 t2 ls h l1 l2 l3 f) (i : Im) : (syncR D (lg1 i)).D = (D.writeN (1 : Nat) 2 (str (recL (rcI 1 i))) 3).settle (1 : Nat) := by
  obtain ⟨p1, p2⟩ := v.put1 (g := lg1 i) rfl rfl rfl i
  have e := put_form1 v.calm v.t1 (g := lg1 i) rfl rfl rfl i
  have hw : writeR D (lg1 i) = ⟨1, 0, (D.put_ (lg1 i) (enOf 1 0 i)).2, (lg1 i).wrote 0 (enOf 1 0 i)⟩ := by
    show wrGo [enOf 1 0 i] 0 0 D (lg1 i) = _
    rw [wrGo_false rfl, if_neg (by rw [p1]; decide), wr_done]
  rw [sync_formW hw p2.calm p2.t1 rfl rfl (show (0 : Nat) < 1 by decide), e]
theorem sync_form2 (v : View D k 9 t2 ls h l1 l2 l3 f) (i j : Im) : (syncR D (lg2 i j)).D = ((D.writeN (1 : Nat) 2 (str (recL (rcI 1 i))) 3).writeN (1 : Nat) 5 (str (recL (rcI 2 j))) 3).settle (1 : Nat) := by
  have h1 : (lg2 i j).node = 1 := rfl
  have h2 : (lg2 i j).epoch = 9 := rfl
  have h3 : (lg2 i j).base = 1 := rfl
  have h4 : (lg2 i j).live = [enOf 1 0 i, enOf 2 3 j] := rfl
  have h5 : (lg2 i j).broken = false := rfl
  have h6 : (lg2 i j).synced = 0 := rfl
  generalize lg2 i j = g at h1 h2 h3 h4 h5 h6 ⊢
  obtain ⟨p1, p2⟩ := v.put1 h1 h2 h3 i
  have e1 := put_form1 v.calm v.t1 h1 h2 h3 i
  have x1 : (g.wrote 0 (enOf 1 0 i)).node = 1 := h1
  have x2 : (g.wrote 0 (enOf 1 0 i)).epoch = 9 := h2
  have x3 : (g.wrote 0 (enOf 1 0 i)).base = 1 := h3
  obtain ⟨q1, q2⟩ := p2.put2 x1 x2 x3 j
  have e2 := put_form2 p2.calm p2.t1 x1 x2 x3 j
  have hw := wr_two h4 h5 rfl rfl p1 q1
  have y1 : ((g.wrote 0 (enOf 1 0 i)).wrote 1 (enOf 2 3 j)).node = 1 := h1
  have y2 : ((g.wrote 0 (enOf 1 0 i)).wrote 1 (enOf 2 3 j)).epoch = 9 := h2
  have y3 : ((g.wrote 0 (enOf 1 0 i)).wrote 1 (enOf 2 3 j)).synced < ((g.wrote 0 (enOf 1 0 i)).wrote 1 (enOf 2 3 j)).written := by
    show g.synced < 2
    omega
  rw [sync_formW hw q2.calm q2.t1 y1 y2 y3, e2, e1]
end
/-- from sector 9 on all is bytes 0 -/
def Zeros (D : Dk) : Prop := ∀ k : Int, 9 ≤ k → D.sec k = str (zer 64)
theorem zeros_ready : Zeros readyD := fun k hk => by
  rw [ready_facts.2.2.2 k, if_neg (by omega)]
theorem Zeros.wrote {D : Dk} (h : Zeros D) (n a : Int) (data : ByteArray) (m : Nat) (ha : a + m ≤ 9) : Zeros (D.writeN n a data m) := fun k hk => by
  rw [writeN_sec, if_neg (by omega)]
  exact h k hk
theorem Zeros.settle {D : Dk} (h : Zeros D) (n : Int) : Zeros (D.settle n) := fun k hk => (settle_sec D n k).trans (h k hk)
theorem Zeros.now {D E : Dk} (h : Zeros D) (he : E.now = D.now) : Zeros E := fun k hk => (sec_congr he k).trans (h k hk)
/-- the plan's images -/
theorem best_block (l : List Im) : ∀ k x, bestOf l k = some x → x.block = k := by
  have key : ∀ (l : List Im) (f : Int → Option Im), (∀ k x, f k = some x → x.block = k) → ∀ k x, l.foldl bestStep f k = some x → x.block = k := by
    intro l
    induction l with
    | nil => intro f hf; exact hf
    | cons y l ih =>
      intro f hf
      refine ih _ (fun k x hx => ?_)
      have hu : ∀ k x, upd f y.block y k = some x → x.block = k := by
        intro k x hx
        unfold upd at hx
        split at hx
        · rename_i hk
          injection hx with hx
          rw [← hx, hk]
        · exact hf k x hx
      cases h : f y.block with
      | none => rw [best_none h] at hx; exact hu k x hx
      | some was =>
        rw [best_some h] at hx
        split at hx
        · exact hu k x hx
        · exact hf k x hx
  exact key l (fun _ => none) (fun k x h => by cases h)
theorem plan_wants {rs : List Rc} (h : ∀ i ∈ rs.flatMap (·.images), i.right ∧ 0 < i.ver ∧ i.ver < 18446744073709551616 ∧ i.block ≤ 9) : Wants (planOf rs) := by
  have hk : ∀ k ∈ keysOf (rs.flatMap (·.images)), ∃ x, bestOf (rs.flatMap (·.images)) k = some x := by
    intro k hk
    unfold keysOf at hk
    rw [List.mem_mergeSort, List.mem_eraseDups] at hk
    have := (best_keys (rs.flatMap (·.images)) k).2 hk
    exact Option.isSome_iff_exists.1 this
  have hn : (keysOf (rs.flatMap (·.images))).Nodup := by
    unfold keysOf
    exact (List.mergeSort_perm _ _).nodup_iff.2 (nodup_dups _)
  have hg : ∀ k x, bestOf (rs.flatMap (·.images)) k = some x → keyG (bestOf (rs.flatMap (·.images))) k = x := by
    intro k x hx
    unfold keyG
    rw [hx]
    rfl
  rw [plan_eq]
  refine ⟨fun i hi => ?_, ?_⟩
  · obtain ⟨k, hk1, rfl⟩ := List.mem_map.1 hi
    obtain ⟨x, hx⟩ := hk k hk1
    rw [hg k x hx]
    exact h x (best_mem _ k x hx)
  · rw [List.pairwise_map]
    refine hn.imp_of_mem (fun {a b} ha hb hab => ?_)
    obtain ⟨x, hx⟩ := hk a ha
    obtain ⟨y, hy⟩ := hk b hb
    rw [hg a x hx, hg b y hy, best_block _ a x hx, best_block _ b y hy]
    exact hab
/-- ahead of each time -/
def Ok2 (l : List Im) (lg : Int → ByteArray) (D : Dk) : Prop := D.waits = [] ∧ (Run2 D 20 (A1 l lg) ∨ (Run2 D 20 (A2 l lg) ∧ D.sec 1 = str (zer 64)))
section
variable {D D0 : Dk} {l : List Im} {lg : Int → ByteArray} {A : Int → ByteArray → Prop} {e : Nat}
theorem Run2.arm (h : Run2 D e A) (n : Int) (keep : List Int) : Run2 (D.arm n keep) e A := ⟨h.on, h.sectors, h.t2, ⟨h.sane.nodes, h.sane.now, h.sane.chain⟩, ⟨h.safe.last, h.safe.wait⟩⟩
theorem Run2.again (h : Run2 D e A) : Run2 (D.arm (-1) []).restore e A := ⟨rfl, h.sectors, h.t2, ⟨h.sane.nodes, h.sane.now, h.sane.chain⟩, ⟨h.safe.last, h.safe.wait⟩⟩
theorem Off2.again (h : Off2 D e A) : Run2 (D.arm (-1) []).restore e A := ⟨rfl, h.sectors, h.t2, ⟨h.sane.nodes, h.sane.now, h.sane.chain⟩, ⟨h.safe.last, h.safe.wait⟩⟩
theorem ok2_start {k t1 ls : Nat} {l1 l2 l3 : List UInt8} {f : Nat → Im} (v : View D k t1 20 ls hd9 l1 l2 l3 f) (q : Quiet D) (z : Zeros D) (hw : Wants l) : Ok2 l D.sec D := by
  refine ⟨q.waits, .inl ⟨v.calm.on, v.calm.sectors, v.t2, q.sane.any q.waits _, ?_⟩⟩
  refine safe_of_sec q.sane q.waits (fun k => ⟨fun hk => by rw [hk]; exact v.head, fun _ _ => rfl, fun i hi => ?_⟩)
  have := (hw.ok i hi).1.1
  exact ⟨fun hk => .inl (z k (by omega)), fun hk => .inl (z k (by omega))⟩
theorem log_same (h : Run2 D e (A1 l D0.sec)) : D.readL 2 7 = D0.readL 2 7 :=
  readL_congr (fun j h1 h2 => (h.safe.sec h.sane j).2.1 h1 (by omega))
/-- once more, with a cut in its midst -/
theorem ok2_again (hw : Wants l) (hp : planOf (scanL 9 10 1 (str (D0.readL 2 7))) = l) (h : Ok2 l D0.sec D) (n : Int) (keep : List Int) : Ok2 l D0.sec (((runR (D.arm n keep) 1 9 (2 : Nat) 20).D.arm (-1) []).restore) := by
  obtain ⟨hwt, h | ⟨h, hz⟩⟩ := h
  · have ha := h.arm n keep
    rcases run_cut hw (by omega) ha hwt (by rw [log_same ha]; exact hp) with ⟨_, _, x⟩ | ⟨_, y2, y3, _, y5⟩
    · rcases x with x | x
      · exact ⟨x.waits, .inl x.again⟩
      · have ho := x.again
        have hs1 := (ho.safe.sec ho.sane 1).1 rfl
        refine ⟨x.waits, ?_⟩
        rcases hs1 with hs1 | hs1
        · exact .inl (ho.weak x.waits (fun k => a1_of (ho.safe.sec ho.sane k) (fun hk => by rw [hk]; exact hs1)))
        · exact .inr ⟨ho, hs1⟩
    · exact ⟨y3, .inr ⟨y2.again, y5⟩⟩
  · have ha := h.arm n keep
    have e := (run_none ha.live hz 9 ((2 : Nat) : Int) 20).1
    rw [e]
    exact ⟨hwt, .inr ⟨ha.again, hz⟩⟩
/-- the last time -/
theorem ok2_last (hw : Wants l) (hp : planOf (scanL 9 10 1 (str (D0.readL 2 7))) = l) (h : Ok2 l D0.sec D) (ha : D.armed = false) :
    (runR D 1 9 (2 : Nat) 20).e = 0 ∧ (runR D 1 9 (2 : Nat) 20).D.scan 1 = [] ∧ (runR D 1 9 (2 : Nat) 20).D.scanE 1 = 0 ∧ ∀ i ∈ l, (runR D 1 9 (2 : Nat) 20).D.load i.block = (i, 0) := by
  have key : ∀ E : Dk, Run2 E 20 (A2 l D0.sec) → E.waits = [] → E.sec 1 = str (zer 64) → E.scan 1 = [] ∧ E.scanE 1 = 0 ∧ ∀ i ∈ l, E.load i.block = (i, 0) := by
    intro E hE _ hz
    obtain ⟨_, r2, r3⟩ := run_none hE.live hz 9 ((2 : Nat) : Int) 20
    refine ⟨r2, r3, fun i hi => ?_⟩
    obtain ⟨hr, h0, hv, hb⟩ := hw.ok i hi
    have hr0 := hr.1
    have hbt : ((i.block.toNat : Nat) : Int) = i.block := by omega
    have hle := load_eq hE.live (b := i.block.toNat) (by omega)
    rw [hbt] at hle
    have s0 := ((hE.safe.sec hE.sane (17 + 2 * i.block)).2.2 i hi).1 rfl
    have s1 := ((hE.safe.sec hE.sane (17 + 2 * i.block + 1)).2.2 i hi).2 rfl
    have e1 : getB i.block (str (secL i 0 ++ secL i 1)) = (i, 0) := getB_put hr hv
    rw [s0, s1, str_list, str_list, e1] at hle
    exact hle
  obtain ⟨hwt, h | ⟨h, hz⟩⟩ := h
  · rcases run_cut hw (by omega) h hwt (by rw [log_same h]; exact hp) with ⟨x, _⟩ | ⟨y1, y2, y3, _, y5⟩
    · rw [ha] at x
      cases x
    · exact ⟨y1, key _ y2 y3 y5⟩
  · have e := (run_none h.live hz 9 ((2 : Nat) : Int) 20).1
    rw [e]
    exact ⟨rfl, key D h hwt hz⟩
end
end Go.Proofs.YtkhieofknglknaaGreatDoor

/- The document's plan: each image laid into a list that rises; it is the plan. -/
namespace Go.Proofs.YtkhieofknglknaaGreatDoor
open Go.RowKit

/-- one image more -/
def planIns : List Im → Im → List Im
  | [], x => [x]
  | y :: l, x => if y.block < x.block then y :: planIns l x else if y.block = x.block then (if y.ver ≤ x.ver then x :: l else y :: l) else x :: y :: l
def planF (l : List Im) : List Im := l.foldl planIns []
def Rises (l : List Im) : Prop := l.Pairwise (fun a b => a.block < b.block)
def lookI (l : List Im) (k : Int) : Option Im := l.find? (fun y => decide (y.block = k))
theorem look_cons (y : Im) (l : List Im) (k : Int) : lookI (y :: l) k = if y.block = k then some y else lookI l k := by
  unfold lookI
  rw [List.find?_cons]
  by_cases h : y.block = k <;> simp [h]
theorem look_above {l : List Im} {k : Int} (h : ∀ y ∈ l, k < y.block) : lookI l k = none := by
  unfold lookI
  refine List.find?_eq_none.2 (fun y hy => ?_)
  have := h y hy
  simp; omega
theorem ins_mem {l : List Im} {x z : Im} (h : z ∈ planIns l x) : z = x ∨ z ∈ l := by
  induction l with
  | nil => exact .inl (by simpa [planIns] using h)
  | cons y l ih =>
    unfold planIns at h
    split at h
    · rcases List.mem_cons.1 h with rfl | h
      · exact .inr (List.mem_cons_self ..)
      · rcases ih h with h | h
        · exact .inl h
        · exact .inr (List.mem_cons_of_mem _ h)
    · split at h
      · split at h
        · rcases List.mem_cons.1 h with rfl | h
          · exact .inl rfl
          · exact .inr (List.mem_cons_of_mem _ h)
        · exact .inr h
      · rcases List.mem_cons.1 h with rfl | h
        · exact .inl rfl
        · exact .inr h
theorem ins_rises {l : List Im} (h : Rises l) (x : Im) : Rises (planIns l x) := by
  induction l with
  | nil => exact List.pairwise_singleton ..
  | cons y l ih =>
    obtain ⟨h1, h2⟩ := List.pairwise_cons.1 h
    unfold planIns
    split
    · rename_i hlt
      refine List.pairwise_cons.2 ⟨fun z hz => ?_, ih h2⟩
      rcases ins_mem hz with rfl | hz
      · exact hlt
      · exact h1 z hz
    · split
      · rename_i heq
        split
        · exact List.pairwise_cons.2 ⟨fun z hz => by rw [← heq]; exact h1 z hz, h2⟩
        · exact h
      · refine List.pairwise_cons.2 ⟨fun z hz => ?_, h⟩
        rcases List.mem_cons.1 hz with rfl | hz
        · omega
        · have := h1 z hz
          omega
theorem ins_look {l : List Im} (h : Rises l) (x : Im) (k : Int) : lookI (planIns l x) k = if x.block = k then (match lookI l k with
    | none => some x
    | some y => if y.ver ≤ x.ver then some x else some y) else lookI l k := by
  induction l with
  | nil =>
    show lookI [x] k = _
    rw [look_cons]
    rfl
  | cons y l ih =>
    obtain ⟨h1, h2⟩ := List.pairwise_cons.1 h
    unfold planIns
    by_cases hlt : y.block < x.block
    · rw [if_pos hlt, look_cons, look_cons, ih h2]
      by_cases hk : y.block = k
      · rw [if_pos hk, if_pos hk, if_neg (by omega)]
      · rw [if_neg hk, if_neg hk]
    · rw [if_neg hlt]
      by_cases heq : y.block = x.block
      · rw [if_pos heq]
        by_cases hv : y.ver ≤ x.ver
        · rw [if_pos hv, look_cons, look_cons]
          by_cases hk : x.block = k
          · rw [if_pos hk, if_pos hk, if_pos (heq.trans hk)]
            show _ = if y.ver ≤ x.ver then some x else some y
            rw [if_pos hv]
          · rw [if_neg hk, if_neg hk, if_neg (fun e => hk (heq.symm.trans e))]
        · rw [if_neg hv, look_cons]
          by_cases hk : x.block = k
          · rw [if_pos hk, if_pos (heq.trans hk)]
            show _ = if y.ver ≤ x.ver then some x else some y
            rw [if_neg hv]
          · rw [if_neg hk]
      · rw [if_neg heq, look_cons]
        by_cases hk : x.block = k
        · rw [if_pos hk, if_pos hk, look_above (fun z hz => ?_)]
          rcases List.mem_cons.1 hz with rfl | hz
          · omega
          · have := h1 z hz
            omega
        · rw [if_neg hk, if_neg hk]
theorem bestStep_at (f : Int → Option Im) (i : Im) (k : Int) : bestStep f i k = if i.block = k then (match f k with
    | none => some i
    | some y => if y.ver ≤ i.ver then some i else some y) else f k := by
  unfold bestStep
  by_cases hk : i.block = k
  · subst hk
    rw [if_pos rfl]
    cases hq : f i.block with
    | none => simp [upd]
    | some y =>
      by_cases hv : y.ver ≤ i.ver
      · simp [upd, hv]
      · simp [hv, hq]
  · have hk2 : ¬ k = i.block := fun e => hk e.symm
    rw [if_neg hk]
    cases hq : f i.block with
    | none => simp [upd, hk2]
    | some y =>
      by_cases hv : y.ver ≤ i.ver
      · simp [upd, hv, hk2]
      · simp [hv]
theorem bestStep_block {f : Int → Option Im} (hb : ∀ k x, f k = some x → x.block = k) (i : Im) : ∀ k x, bestStep f i k = some x → x.block = k := by
  intro k x hx
  rw [bestStep_at] at hx
  split at hx
  · rename_i hk
    cases hq : f k with
    | none =>
      simp only [hq] at hx
      injection hx with hx
      rw [← hx, hk]
    | some y =>
      simp only [hq] at hx
      split at hx
      · injection hx with hx
        rw [← hx, hk]
      · injection hx with hx
        rw [← hx]
        exact hb k y hq
  · exact hb k x hx
theorem best_look : ∀ (l : List Im) (out : List Im) (f : Int → Option Im), Rises out → (∀ k, lookI out k = f k) →
    Rises (l.foldl planIns out) ∧ ∀ k, lookI (l.foldl planIns out) k = (l.foldl bestStep f) k
  | [], out, f, h, hf => ⟨h, hf⟩
  | i :: l, out, f, h, hf => best_look l (planIns out i) (bestStep f i) (ins_rises h i) (fun k => by rw [ins_look h, hf, bestStep_at])
theorem rises_ext : ∀ {l m : List Im}, Rises l → Rises m → (∀ k, lookI l k = lookI m k) → l = m
  | [], [], _, _, _ => rfl
  | [], y :: m, _, _, h => by
    have := h y.block
    rw [look_cons, if_pos rfl] at this
    cases this
  | x :: l, [], _, _, h => by
    have := h x.block
    rw [look_cons, if_pos rfl] at this
    cases this
  | x :: l, y :: m, hl, hm, h => by
    obtain ⟨a1, a2⟩ := List.pairwise_cons.1 hl
    obtain ⟨b1, b2⟩ := List.pairwise_cons.1 hm
    have hxy : x = y := by
      rcases Int.lt_trichotomy x.block y.block with hlt | he | hgt
      · have := h x.block
        rw [look_cons, if_pos rfl, look_above (fun z hz => ?_)] at this
        · cases this
        · rcases List.mem_cons.1 hz with rfl | hz
          · exact hlt
          · have := b1 z hz
            omega
      · have := h x.block
        rw [look_cons, if_pos rfl, look_cons, if_pos he.symm] at this
        injection this
      · have := h y.block
        rw [look_cons y, if_pos rfl, look_above (fun z hz => ?_)] at this
        · cases this
        · rcases List.mem_cons.1 hz with rfl | hz
          · exact hgt
          · have := a1 z hz
            omega
    subst hxy
    congr 1
    refine rises_ext a2 b2 (fun k => ?_)
    have := h k
    rw [look_cons, look_cons] at this
    by_cases hk : x.block = k
    · rw [look_above (fun z hz => by rw [← hk]; exact a1 z hz), look_above (fun z hz => by rw [← hk]; exact b1 z hz)]
    · rw [if_neg hk, if_neg hk] at this
      exact this
theorem planF_best (l : List Im) : Rises (planF l) ∧ ∀ k, lookI (planF l) k = bestOf l k :=
  best_look l [] (fun _ => none) List.Pairwise.nil (fun _ => rfl)
theorem look_mem {l : List Im} (h : Rises l) {x : Im} (hx : x ∈ l) : lookI l x.block = some x := by
  induction l with
  | nil => cases hx
  | cons y l ih =>
    obtain ⟨h1, h2⟩ := List.pairwise_cons.1 h
    rw [look_cons]
    rcases List.mem_cons.1 hx with rfl | hx
    · rw [if_pos rfl]
    · have := h1 x hx
      rw [if_neg (by omega)]
      exact ih h2 hx
theorem plan_F (rs : List Rc) : planOf rs = planF (rs.flatMap (·.images)) := by
  generalize hl : rs.flatMap (·.images) = l
  have hk : ∀ k, k ∈ keysOf l ↔ ∃ x, bestOf l k = some x := by
    intro k
    unfold keysOf
    rw [List.mem_mergeSort, List.mem_eraseDups, ← best_keys l k, Option.isSome_iff_exists]
  have hn : (keysOf l).Pairwise (fun a b => a < b) := by
    have h1 : (keysOf l).Nodup := by
      unfold keysOf
      exact (List.mergeSort_perm _ _).nodup_iff.2 (nodup_dups _)
    have h2 : (keysOf l).Pairwise (fun a b => decide (a ≤ b) = true) := by
      unfold keysOf
      exact List.pairwise_mergeSort (fun a b c h1 h2 => by simp at *; omega) (fun a b => by simp; omega) _
    exact (h1.and h2).imp (fun {a b} ⟨x, y⟩ => by simp at y; have : a ≠ b := x; omega)
  have hg : ∀ k x, bestOf l k = some x → keyG (bestOf l) k = x := by
    intro k x hx
    unfold keyG
    rw [hx]
    rfl
  have hr : Rises ((keysOf l).map (keyG (bestOf l))) := by
    refine List.pairwise_map.2 (hn.imp_of_mem (fun {a b} ha hb hab => ?_))
    obtain ⟨x, hx⟩ := (hk a).1 ha
    obtain ⟨y, hy⟩ := (hk b).1 hb
    rw [hg a x hx, hg b y hy, best_block _ a x hx, best_block _ b y hy]
    exact hab
  rw [plan_eq, hl]
  obtain ⟨p1, p2⟩ := planF_best l
  refine rises_ext hr p1 (fun k => ?_)
  rw [p2]
  cases hq : bestOf l k with
  | some x =>
    have hm : x ∈ (keysOf l).map (keyG (bestOf l)) := List.mem_map.2 ⟨k, (hk k).2 ⟨x, hq⟩, hg k x hq⟩
    have := look_mem hr hm
    rwa [best_block _ k x hq] at this
  | none =>
    unfold lookI
    refine List.find?_eq_none.2 (fun y hy => ?_)
    obtain ⟨j, hj, rfl⟩ := List.mem_map.1 hy
    obtain ⟨x, hx⟩ := (hk j).1 hj
    rw [hg j x hx, best_block _ j x hx]
    intro e
    have e : j = k := by simpa using e
    rw [e, hq] at hx
    cases hx
end Go.Proofs.YtkhieofknglknaaGreatDoor

/- The document's plan, walked: each image is laid into a list that rises. -/
namespace Go.Proofs.YtkhieofknglknaaGreatDoor
open Go.RowKit

/-- where an image is laid: behind the first k, whose blocks are lesser -/
theorem ins_at : ∀ (l : List Im) (x : Im) (k : Nat), k ≤ l.length → (∀ j y, j < k → l[j]? = some y → y.block < x.block) → (∀ y, l[k]? = some y → ¬ y.block < x.block) →
    planIns l x = match l[k]? with
      | none => l ++ [x]
      | some y => if y.block = x.block then (if y.ver ≤ x.ver then l.set k x else l) else l.take k ++ x :: l.drop k
  | [], x, 0, _, _, _ => rfl
  | [], x, k + 1, h, _, _ => absurd h (by simp)
  | y :: l, x, 0, _, _, h2 => by
    have := h2 y rfl
    unfold planIns
    rw [if_neg this]
    simp
  | y :: l, x, k + 1, hk, h1, h2 => by
    have a := h1 0 y (by omega) rfl
    have ih := ins_at l x k (by simpa using hk) (fun j z hj hz => h1 (j + 1) z (by omega) (by simpa using hz)) (fun z hz => h2 z (by simpa using hz))
    unfold planIns
    rw [if_pos a, ih]
    simp only [List.getElem?_cons_succ]
    cases l[k]? with
    | none => rfl
    | some z =>
      simp only [List.set_cons_succ, List.take_succ_cons, List.drop_succ_cons, List.cons_append]
      split
      · split <;> rfl
      · rfl
theorem ins_len (l : List Im) (x : Im) : (planIns l x).length ≤ l.length + 1 := by
  induction l with
  | nil => simp [planIns]
  | cons y l ih =>
    unfold planIns
    split
    · simp only [List.length_cons]; omega
    · split
      · split <;> simp
      · simp
theorem planF_add (l : List Im) (x : Im) : planF (l ++ [x]) = planIns (planF l) x := by simp [planF]
theorem planF_len (l : List Im) : (planF l).length ≤ l.length := by
  generalize hn : l.length = n
  induction n generalizing l with
  | zero => rw [List.eq_nil_of_length_eq_zero hn]; simp [planF]
  | succ n ih =>
    obtain ⟨m, x, rfl⟩ : ∃ m x, l = m ++ [x] := ⟨l.dropLast, l.getLast (by rintro rfl; simp at hn), (List.dropLast_concat_getLast _).symm⟩
    have hm : m.length = n := by simpa using hn
    have := ih m hm
    rw [planF_add]
    exact Nat.le_trans (ins_len _ _) (by omega)
theorem imcells_set {x : Im} : ∀ {l : List Im} {k : Nat}, k < l.length → (((imcells l).set (k * 3) (.int .i64 x.block)).set (k * 3 + 1) (.int .u64 x.ver)).set (k * 3 + 2) (.string x.data) = imcells (l.set k x)
  | y :: l, 0, _ => rfl
  | y :: l, k + 1, h => by
    have ih := imcells_set (x := x) (l := l) (k := k) (by simpa using h)
    rw [show (k + 1) * 3 = k * 3 + 1 + 1 + 1 from by omega, show k * 3 + 1 + 1 + 1 + 1 = k * 3 + 1 + 1 + 1 + 1 from rfl]
    show _ :: _ :: _ :: (((imcells l).set (k * 3) _).set (k * 3 + 1) _).set (k * 3 + 2) _ = _
    rw [ih]
    rfl
theorem head_add (g n : Nat) : (⟨g, 0, none⟩ : Addr).add n = ⟨g, n, none⟩ := by unfold Addr.add; split <;> simp_all
/-- the list under way -/
structure OutF (o : Nat → Nat) (c : Nat) (w wr : World) (V : Value) (l : List Im) : Prop where
  own : OwnS o c wr 72 3 V l.length (imcells l)
  env : Env o w wr
  fut : Fut o wr
  col : c = 2 ∨ c = 3
section
variable {o o' o5 o6 o7 : Nat → Nat} {w wr w' w5 w6 w7 : World} {V v7 : Value} {l : List Im} {C : Nat → Prop} {c d k : Nat} {x : Im}
theorem OutF.step (h : OutF o c w wr V l) (hs : Step o C wr o' w') (h0 : ¬ C 0) (h2 : ¬ C c) : OutF o' c w w' V l := ⟨h.own.step hs h2, h.env.step hs h0, h.fut.step hs, h.col⟩
theorem OutF.below_ (h : OutF o c w wr V l) (hb : Below wr.heap.size wr w') : OutF o c w w' V l := h.step (Step.of_below o (fun _ => False) hb) id id
theorem OutF.alloc (h : OutF o c w wr V l) (x : Obj) : OutF o c w (wr.alloc x) V l := h.below_ ((Below.refl _ _).alloc (Nat.le_refl _) x)
theorem OutF.drewN (h : OutF o c w wr V l) (n : Nat) : OutF o c w (wr.drewN n) V l := ⟨h.own, h.env.drewN n, h.fut, h.col⟩
theorem OutF.drew (h : OutF o c w wr V l) : OutF o c w wr.drew V l := ⟨h.own, h.env.drewN 1, h.fut, h.col⟩
theorem imcells_take (l : List Im) : ∀ k, imcells (l.take k) = (imcells l).take (k * 3) := by
  induction l with
  | nil => intro k; simp [imcells]
  | cons y l ih =>
    intro k
    cases k with
    | zero => rfl
    | succ k =>
      rw [List.take_succ_cons, show (k + 1) * 3 = k * 3 + 1 + 1 + 1 from by omega]
      show _ :: _ :: _ :: imcells (l.take k) = _
      rw [ih k]
      rfl
theorem imcells_drop (l : List Im) : ∀ k, imcells (l.drop k) = (imcells l).drop (k * 3) := by
  induction l with
  | nil => intro k; simp [imcells]
  | cons y l ih =>
    intro k
    cases k with
    | zero => rfl
    | succ k =>
      rw [List.drop_succ_cons, show (k + 1) * 3 = k * 3 + 1 + 1 + 1 from by omega, ih k]
      rfl
theorem OutF.ins (h : OutF o c w wr V l) (s5 : Step o (only d) wr o5 w5) (x' : Obj) (s6 : Step o5 (only d) (w5.alloc x') o6 w6) (s7 : Step o6 (only d) w6 o7 w7) (hd : d = 2 ∨ d = 3) (hk : k ≤ l.length)
    (ho : OwnS o7 d w7 72 3 v7 (0 + k + 1 + (l.length - k)) (([] ++ imcells (l.take k) ++ x.cells) ++ imcells (l.drop k))) : OutF o7 d w w7 v7 (l.take k ++ x :: l.drop k) := by
  have e1 : (l.take k ++ x :: l.drop k).length = 0 + k + 1 + (l.length - k) := by simp; omega
  have e2 : imcells (l.take k ++ x :: l.drop k) = ([] ++ imcells (l.take k) ++ x.cells) ++ imcells (l.drop k) := by
    rw [imcells_app, List.nil_append, List.append_assoc]
    rfl
  have hs := ((s5.alloc x').trans s6).trans s7
  have h0 : ¬ only d 0 := by unfold only; omega
  refine ⟨?_, h.env.step hs h0, h.fut.step hs, hd⟩
  rw [e1, e2]
  exact ho
theorem OutF.ins2 (h : OutF o c w wr V l) (x' : Obj) (s5 : Step o (only d) (wr.alloc x') o5 w5) (s6 : Step o5 (only d) w5 o6 w6) (s7 : Step o6 (only d) w6 o7 w7) (hd : d = 2 ∨ d = 3) (hk : k ≤ l.length)
    (ho : OwnS o7 d w7 72 3 v7 (0 + k + 1 + (l.length - k)) (([] ++ imcells (l.take k) ++ x.cells) ++ imcells (l.drop k))) : OutF o7 d w w7 v7 (l.take k ++ x :: l.drop k) := by
  have e1 : (l.take k ++ x :: l.drop k).length = 0 + k + 1 + (l.length - k) := by simp; omega
  have e2 : imcells (l.take k ++ x :: l.drop k) = ([] ++ imcells (l.take k) ++ x.cells) ++ imcells (l.drop k) := by
    rw [imcells_app, List.nil_append, List.append_assoc]
    rfl
  have hs := (((Step.refl o (only d) wr).alloc x').trans s5).trans (s6.trans s7)
  have h0 : ¬ only d 0 := by unfold only; omega
  refine ⟨?_, h.env.step hs h0, h.fut.step hs, hd⟩
  rw [e1, e2]
  exact ho
theorem Keep.row {g : Nat} {vs : List Value} {cs : Array Value} (h : Keep o wr g 72 cs) (e : cs.toList = vs) (hl : vs.length = 3) : Reads wr 3 (some ⟨g, 0, none⟩) 1 vs := by
  refine ⟨by omega, fun _ => ⟨_, rfl, fun j u hu => ?_⟩⟩
  rw [head_add, h.1.cell, ← hu, ← e]
  simp
/-- a copy of the list, with one more image in a place -/
theorem own_set3 {g cap : Nat} (h : OwnS o c wr 72 3 (.slice (some ⟨g, 0, none⟩) l.length cap) l.length (imcells l)) (hk : k < l.length) (x : Im) :
    OwnS o c (((wr.setCell ⟨g, k * 3, none⟩ (.int .i64 x.block)).setCell ⟨g, k * 3 + 1, none⟩ (.int .u64 x.ver)).setCell ⟨g, k * 3 + 2, none⟩ (.string x.data)) 72 3 (.slice (some ⟨g, 0, none⟩) (l.set k x).length cap) (l.set k x).length (imcells (l.set k x)) := by
  obtain ⟨g', cur, e, hb, hc, h1, h2, h3, h4⟩ := h.blk (by omega)
  injection e with e
  injection e with e
  subst e
  rw [List.length_set]
  refine OwnS.of_blk (((hb.set_ (k * 3) _).set_ (k * 3 + 1) _).set_ (k * 3 + 2) _) hc h1 h2 (by simp [h3]) ?_
  rw [← imcells_set hk, ← h4]
  simp [List.take_set]
theorem OutF.set_ {g cap : Nat} (h : OutF o c w wr V l) (s7 : Step o (only d) wr o7 w7) (hd : d = 2 ∨ d = 3) (hg : o7 g = d) (ho : OwnS o7 d (((w7.setCell ⟨g, k * 3, none⟩ (.int .i64 x.block)).setCell ⟨g, k * 3 + 1, none⟩ (.int .u64 x.ver)).setCell ⟨g, k * 3 + 2, none⟩ (.string x.data)) 72 3 (.slice (some ⟨g, 0, none⟩) (l.set k x).length cap) (l.set k x).length (imcells (l.set k x))) :
    OutF o7 d w (((w7.setCell ⟨g, k * 3, none⟩ (.int .i64 x.block)).setCell ⟨g, k * 3 + 1, none⟩ (.int .u64 x.ver)).setCell ⟨g, k * 3 + 2, none⟩ (.string x.data)) (.slice (some ⟨g, 0, none⟩) l.length cap) (l.set k x) := by
  have hs := ((s7.setCell (p := ⟨g, k * 3, none⟩) hg (.int .i64 x.block)).setCell (p := ⟨g, k * 3 + 1, none⟩) hg (.int .u64 x.ver)).setCell (p := ⟨g, k * 3 + 2, none⟩) hg (.string x.data)
  have h0 : ¬ only d 0 := by unfold only; omega
  refine ⟨?_, h.env.step hs h0, h.fut.step hs, hd⟩
  have e : (l.set k x).length = l.length := List.length_set
  rw [e] at ho ⊢
  exact ho
theorem own_row3 {g cap : Nat} (h : OwnS o c wr 72 3 (.slice (some ⟨g, 0, none⟩) l.length cap) l.length (imcells l)) (hk : k < l.length) :
    ((∃ u, wr.cell? ⟨g, k * 3, none⟩ = some u) ∧ (∃ u, wr.cell? ⟨g, k * 3 + 1, none⟩ = some u) ∧ ∃ u, wr.cell? ⟨g, k * 3 + 2, none⟩ = some u) ∧ wr.frozen? ⟨g, k * 3, none⟩ = false ∧ wr.frozen? ⟨g, k * 3 + 1, none⟩ = false ∧ wr.frozen? ⟨g, k * 3 + 2, none⟩ = false := by
  obtain ⟨g', cur, e, hb, hc, h1, h2, h3, h4⟩ := h.blk (by omega)
  injection e with e
  injection e with e
  subst e
  exact ⟨⟨hb.cell_some (by omega), hb.cell_some (by omega), hb.cell_some (by omega)⟩, hb.frozen _, hb.frozen _, hb.frozen _⟩
theorem own_head {A : Option Addr} {cap n : Nat} {xs : List Value} (h : OwnS o c wr 72 3 (.slice A n cap) n xs) (hn : ¬ cap = n) : ∃ g, A = some ⟨g, 0, none⟩ := by
  rcases h.1.2 with ⟨hv, h0⟩ | ⟨g, cap', cur, hv, _⟩
  · injection hv with _ _ hv
    omega
  · injection hv with hv
    exact ⟨g, hv⟩
theorem own_head2 {a : Addr} {cap n : Nat} {xs : List Value} (h : OwnS o c wr 72 3 (.slice (some a) n cap) n xs) : ∃ g, (some a : Option Addr) = some ⟨g, 0, none⟩ ∧ True ∧ True := by
  rcases h.1.2 with ⟨hv, h0⟩ | ⟨g, cap', cur, hv, _⟩
  · injection hv with hv
    cases hv
  · injection hv with hv
    exact ⟨g, hv, trivial, trivial⟩
theorem own_some {n : Nat} {v : Value} {xs : List Value} (h : OwnS o c wr 72 3 v n xs) (hn : 0 < n) : ∃ g cap, v = .slice (some ⟨g, 0, none⟩) n cap ∧ g < wr.heap.size := by
  obtain ⟨A, cap, rfl, _, _⟩ := own_form' h
  obtain ⟨g, rfl, hg, _⟩ := h.addr hn
  exact ⟨g, cap, rfl, hg⟩
theorem cut_own {g cap : Nat} (h : OwnS o c wr 72 3 (.slice (some ⟨g, 0, none⟩) l.length cap) l.length (imcells l)) (hk : k ≤ l.length) : Reads wr 3 (some ⟨g, k * 3, none⟩) (l.length - k) (imcells (l.drop k)) := by
  refine ⟨by rw [imcells_drop, List.length_drop, h.1.1, Nat.sub_mul], fun hn => ⟨_, rfl, fun j u hu => ?_⟩⟩
  obtain ⟨ad, e, hc⟩ := (Reads.of_own h.1).2 (by omega)
  injection e with e
  subst e
  rw [imcells_drop, List.getElem?_drop] at hu
  have := hc _ u hu
  unfold Addr.add at this ⊢
  split at this <;> split <;> simp_all
end
end Go.Proofs.YtkhieofknglknaaGreatDoor
