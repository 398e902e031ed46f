/- SessRoom: what the twelve rounds make of the two sessions (plain). -/
import Derived.Test.YtoegkgebmldhaaaSessH
namespace Go.Proofs.Ytoegkgebmldhaaa
open Go.RowKit

/-- what waits behind sends, and the session -/
def waits : List ByteArray → Int → List Wt
  | [], _ => []
  | d :: l, i => ⟨i + 1, d, false, 0⟩ :: waits l (i + 1)
theorem waits_len (l : List ByteArray) (i : Int) : (waits l i).length = l.length := by
  induction l generalizing i with
  | nil => rfl
  | cons d l ih => simp [waits, ih]
theorem waits_app (l m : List ByteArray) (i : Int) : waits (l ++ m) i = waits l i ++ waits m (i + l.length) := by
  induction l generalizing i with
  | nil => simp [waits]
  | cons d l ih =>
    simp only [List.cons_append, waits, ih, List.length_cons]
    rw [show i + 1 + (l.length : Int) = i + ((l.length + 1 : Nat) : Int) by omega]
def sendA (V : List ByteArray) : St := ⟨1, 2, 1, 0, waits V 0, V.length, 0, [], false⟩
theorem sendA_snoc (V : List ByteArray) (d : ByteArray) : ({ sendA V with last := (sendA V).last + 1, out := (sendA V).out ++ [⟨(sendA V).last + 1, d, false, 0⟩] } : St) = sendA (V ++ [d]) := by
  simp [sendA, waits_app, waits]

/-- a session takes frames one behind the other -/
def takesF : St → List Fr → List ByteArray × St
  | s, [] => ([], s)
  | s, f :: F => ((s.takeF f).1 ++ (takesF (s.takeF f).2 F).1, (takesF (s.takeF f).2 F).2)
theorem takesF_app (s : St) (F G : List Fr) : takesF s (F ++ G) = ((takesF s F).1 ++ (takesF (takesF s F).2 G).1, (takesF (takesF s F).2 G).2) := by
  induction F generalizing s with
  | nil => simp [takesF]
  | cons f F ih => simp [takesF, ih]
theorem takesF_snoc (s : St) (F : List Fr) (f : Fr) : takesF s (F ++ [f]) = ((takesF s F).1 ++ ((takesF s F).2.takeF f).1, ((takesF s F).2.takeF f).2) := by
  rw [takesF_app]
  simp [takesF]
/-- what Take asks of a session and a frame -/
structure OkT (s : St) (f : Fr) : Prop where
  out : s.out.length ≤ 64
  From : f.From = s.peer
  To : f.To = s.self
  Mine : 1 ≤ f.Mine
  yours : s.yours ≤ f.Mine
  Yours : f.Yours ≤ s.mine
  Seq : 0 ≤ f.Seq ∧ f.Seq ≤ 1000000000000
  heard : 0 ≤ (s.takeS1 f).heard ∧ (s.takeS1 f).heard ≤ 1000000000000
  ahead : (s.takeS1 f).ahead.length ≤ 100000
  Data : f.Data.size ≤ 3000
def OkTs (s : St) (F : List Fr) : Prop := ∀ (k : Nat) f, F[k]? = some f → OkT (takesF s (F.take k)).2 f
theorem OkTs.nil (s : St) : OkTs s [] := fun k f h => by simp at h
theorem OkTs.cons {s : St} {f : Fr} {F : List Fr} (h : OkT s f) (k : OkTs (s.takeF f).2 F) : OkTs s (f :: F) := by
  intro j g hg
  cases j with
  | zero => simp at hg; subst hg; simpa [takesF] using h
  | succ j => simp at hg; simpa [takesF] using k j g hg

/-- a round: what is told, and both sessions behind it -/
structure Rd where
  a : St
  b : St
  G : List ByteArray
def Rd.aF (r : Rd) : List Fr := r.a.tickS.outF
def Rd.a1 (r : Rd) : St := r.a.tickS.outS
def Rd.b1 (r : Rd) : St := (takesF r.b r.aF).2
def Rd.told (r : Rd) : List ByteArray := (takesF r.b r.aF).1
def Rd.bF (r : Rd) : List Fr := r.b1.outF
def Rd.b2 (r : Rd) : St := r.b1.outS
def Rd.a2 (r : Rd) : St := (takesF r.a1 r.bF).2
def Rd.next (r : Rd) : Rd := ⟨r.a2, r.b2, r.G ++ r.told⟩
structure Rd.Ok (r : Rd) : Prop where
  out : r.a.out.length ≤ 64
  age : ∀ x ∈ r.a.out, 0 ≤ x.age ∧ x.age ≤ 1000
  takeB : OkTs r.b r.aF
  outB : r.b1.out.length ≤ 64
  takeA : OkTs r.a1 r.bF
  told : r.told.length ≤ 64
def Rd.start (V : List ByteArray) : Rd := ⟨sendA V, St.new 2 1 1, []⟩
def Rd.run (V : List ByteArray) : Nat → Rd
  | 0 => Rd.start V
  | k + 1 => (Rd.run V k).next

theorem mem_waits {V : List ByteArray} {i : Int} {x : Wt} (h : x ∈ waits V i) : x.sent = false ∧ x.age = 0 ∧ i + 1 ≤ x.seq ∧ x.seq ≤ i + V.length ∧ x.data ∈ V := by
  induction V generalizing i with
  | nil => simp [waits] at h
  | cons d l ih =>
    simp only [waits, List.mem_cons] at h
    rcases h with rfl | h
    · exact ⟨rfl, rfl, by simp, by simp; omega, by simp⟩
    · have := ih h
      refine ⟨this.1, this.2.1, by omega, ?_, List.mem_cons_of_mem _ this.2.2.2.2⟩
      have := this.2.2.2.1
      simp
      omega
theorem waits_tick (V : List ByteArray) (i : Int) : (waits V i).map Wt.tick = waits V i := by
  induction V generalizing i with
  | nil => rfl
  | cons d l ih => simp [waits, ih, Wt.tick]
/-- frames of waiting texts -/
def tells (y : Int) : List ByteArray → Int → List Fr
  | [], _ => []
  | d :: l, i => ⟨1, 2, 1, y, i + 1, 0, d, true⟩ :: tells y l (i + 1)
theorem tells_waits (s : St) (V : List ByteArray) (i : Int) (h1 : s.self = 1) (h2 : s.peer = 2) (h3 : s.mine = 1) (h4 : s.heard = 0) : s.tells (waits V i) = tells s.yours V i := by
  induction V generalizing i with
  | nil => rfl
  | cons d l ih =>
    have := ih (i + 1)
    simp only [St.tells] at this ⊢
    simp [waits, tells, this, St.tell, St.frame, h1, h2, h3, h4]
theorem renum_waits (V : List ByteArray) (i : Int) : renum ((waits V i).map Wt.out) i = waits V i := by
  induction V generalizing i with
  | nil => rfl
  | cons d l ih => simp [waits, renum, ih, Wt.out]

def A1 (V : List ByteArray) : St := ⟨1, 2, 1, 1, waits V 0, V.length, 0, [], false⟩
def B1 (owed : Bool) (h : Int) : St := ⟨2, 1, 1, 1, [], 0, h, [], owed⟩
def A2 (V : List ByteArray) : St := ⟨1, 2, 1, 1, [], V.length, 0, [], false⟩

theorem tickA0 (V : List ByteArray) : (sendA V).tickS = sendA V := by simp [St.tickS, sendA, waits_tick]
theorem tickA1 (V : List ByteArray) : (A1 V).tickS = A1 V := by simp [St.tickS, A1, waits_tick]
theorem outA0 (V : List ByteArray) : (sendA V).outF = tells 0 V 0 := by
  have := tells_waits (sendA V) V 0 rfl rfl rfl rfl
  simp only [St.outF]
  rw [if_neg (by simp [sendA])]
  exact this
theorem outA1 (V : List ByteArray) : (A1 V).outF = tells 1 V 0 := by
  have := tells_waits (A1 V) V 0 rfl rfl rfl rfl
  simp only [St.outF]
  rw [if_neg (by simp [A1])]
  exact this
/-- frames that know no life: the other one learns it -/
theorem learn1 (d : ByteArray) (i : Int) : (St.new 2 1 1).takeF ⟨1, 2, 1, 0, i + 1, 0, d, true⟩ = ([], B1 true 0) := by
  simp [St.takeF, St.takeS1, St.new, St.greaterS, St.g0, renum, B1]
theorem learn2 (d : ByteArray) (i : Int) : (B1 true 0).takeF ⟨1, 2, 1, 0, i + 1, 0, d, true⟩ = ([], B1 true 0) := by
  simp [St.takeF, St.takeS1, B1]
theorem learns2 (V : List ByteArray) (i : Int) : takesF (B1 true 0) (tells 0 V i) = ([], B1 true 0) := by
  induction V generalizing i with
  | nil => rfl
  | cons d l ih => simp [takesF, tells, learn2, ih]
theorem learns1 (d : ByteArray) (V : List ByteArray) (i : Int) : takesF (St.new 2 1 1) (tells 0 (d :: V) i) = ([], B1 true 0) := by
  simp [takesF, tells, learn1, learns2]
/-- the ack of a new life -/
theorem ackA0 (V : List ByteArray) : (sendA V).outS.takeF ⟨2, 1, 1, 1, 0, 0, ⟨#[]⟩, false⟩ = ([], A1 V) := by
  have h : List.dropWhile (fun x => decide (x.seq ≤ 0)) (waits V 0) = waits V 0 := by
    cases V with
    | nil => rfl
    | cons d l => simp [waits]
  simp [St.takeF, St.takeS1, sendA, St.outS, St.greaterS, St.g0, renum_waits, A1, St.ackS, h, waits_len]
/-- texts in order are told -/
theorem tell1 (o : Bool) (d : ByteArray) (i : Int) : (B1 o i).takeF ⟨1, 2, 1, 1, i + 1, 0, d, true⟩ = ([d], B1 true (i + 1)) := by
  have h : i < i + 1 := by omega
  have h2 : i + 1 - i - 1 ≤ 64 := by omega
  simp [St.takeF, St.takeS1, B1, St.take4, St.insS, St.ackS, getA, St.deliver, delA, h, h2]
theorem tells1 (V : List ByteArray) (i : Int) (o : Bool) : takesF (B1 o i) (tells 1 V i) = (V, B1 (o || !V.isEmpty) (i + V.length)) := by
  induction V generalizing i o with
  | nil => simp [takesF, tells]
  | cons d l ih =>
    simp only [takesF, tells, tell1, ih]
    simp
    congr 1
    omega
theorem dropWhile_nil {p : Wt → Bool} {l : List Wt} (h : ∀ x ∈ l, p x = true) : l.dropWhile p = [] := by
  induction l with
  | nil => rfl
  | cons x l ih => simp [h x (by simp), ih (fun y hy => h y (by simp [hy]))]
theorem ackA1 (V : List ByteArray) : (A1 V).outS.takeF ⟨2, 1, 1, 1, 0, V.length, ⟨#[]⟩, false⟩ = ([], A2 V) := by
  have h : List.dropWhile (fun x => decide (x.seq ≤ (V.length : Int))) ((waits V 0).map Wt.out) = [] := by
    refine dropWhile_nil fun x hx => ?_
    obtain ⟨y, hy, rfl⟩ := List.mem_map.1 hx
    have := mem_waits hy
    have h2 : y.out.seq = y.seq := by unfold Wt.out; split <;> rfl
    rw [h2]
    exact decide_eq_true (by omega)
  simp [St.takeF, St.takeS1, A1, A2, St.outS, St.ackS, h]
theorem mem_tells {y : Int} {V : List ByteArray} {i : Int} {k : Nat} {f : Fr} (h : (tells y V i)[k]? = some f) : f.From = 1 ∧ f.To = 2 ∧ f.Mine = 1 ∧ f.Yours = y ∧ i + 1 ≤ f.Seq ∧ f.Seq ≤ i + V.length ∧ f.Data ∈ V := by
  induction V generalizing i k with
  | nil => simp [tells] at h
  | cons d l ih =>
    cases k with
    | zero =>
      simp [tells] at h
      subst h
      simp
      omega
    | succ k =>
      simp [tells] at h
      have := ih h
      refine ⟨this.1, this.2.1, this.2.2.1, this.2.2.2.1, by omega, ?_, List.mem_cons_of_mem _ this.2.2.2.2.2.2⟩
      have := this.2.2.2.2.2.1
      simp
      omega
theorem tells_len (y : Int) (V : List ByteArray) (i : Int) : (tells y V i).length = V.length := by
  induction V generalizing i with
  | nil => rfl
  | cons d l ih => simp [tells, ih]
theorem tells_take (y : Int) (V : List ByteArray) (i : Int) (k : Nat) : (tells y V i).take k = tells y (V.take k) i := by
  induction V generalizing i k with
  | nil => simp [tells]
  | cons d l ih => cases k with
    | zero => rfl
    | succ k => simp [tells, ih]

/-- the rounds' states -/
def R1 (V : List ByteArray) : Rd := ⟨A1 V, B1 false 0, []⟩
def R2 (V : List ByteArray) : Rd := ⟨A2 V, B1 false V.length, V⟩
theorem next0 (d : ByteArray) (V : List ByteArray) : (Rd.start (d :: V)).next = R1 (d :: V) := by
  have h1 : (Rd.start (d :: V)).aF = tells 0 (d :: V) 0 := by simp [Rd.aF, Rd.start, tickA0, outA0]
  have h2 : (Rd.start (d :: V)).a1 = (sendA (d :: V)).outS := by simp [Rd.a1, Rd.start, tickA0]
  have h3 : (Rd.start (d :: V)).b1 = B1 true 0 := by rw [Rd.b1, h1]; exact congrArg Prod.snd (learns1 d V 0)
  have h4 : (Rd.start (d :: V)).told = [] := by rw [Rd.told, h1]; exact congrArg Prod.fst (learns1 d V 0)
  have h5 : (Rd.start (d :: V)).bF = [⟨2, 1, 1, 1, 0, 0, ⟨#[]⟩, false⟩] := by rw [Rd.bF, h3]; rfl
  have h6 : (Rd.start (d :: V)).b2 = B1 false 0 := by rw [Rd.b2, h3]; rfl
  have h7 : (Rd.start (d :: V)).a2 = A1 (d :: V) := by rw [Rd.a2, h5, h2]; exact congrArg Prod.snd (ackA0 (d :: V))
  rw [Rd.next, h7, h6, h4]
  rfl
theorem next1 (d : ByteArray) (V : List ByteArray) : (R1 (d :: V)).next = R2 (d :: V) := by
  have h1 : (R1 (d :: V)).aF = tells 1 (d :: V) 0 := by simp [Rd.aF, R1, tickA1, outA1]
  have h2 : (R1 (d :: V)).a1 = (A1 (d :: V)).outS := by simp [Rd.a1, R1, tickA1]
  have h8 := tells1 (d :: V) 0 false
  have h3 : (R1 (d :: V)).b1 = B1 true (d :: V).length := by
    rw [Rd.b1, h1]
    refine (congrArg Prod.snd h8).trans ?_
    simp
  have h4 : (R1 (d :: V)).told = d :: V := by rw [Rd.told, h1]; exact congrArg Prod.fst h8
  have h5 : (R1 (d :: V)).bF = [⟨2, 1, 1, 1, 0, (d :: V).length, ⟨#[]⟩, false⟩] := by rw [Rd.bF, h3]; rfl
  have h6 : (R1 (d :: V)).b2 = B1 false (d :: V).length := by rw [Rd.b2, h3]; rfl
  have h7 : (R1 (d :: V)).a2 = A2 (d :: V) := by rw [Rd.a2, h5, h2]; exact congrArg Prod.snd (ackA1 (d :: V))
  rw [Rd.next, h7, h6, h4]
  rfl
theorem next2 (V : List ByteArray) : (R2 V).next = R2 V := by
  simp [Rd.next, Rd.a2, Rd.b2, Rd.told, Rd.aF, Rd.a1, Rd.b1, Rd.bF, R2, A2, B1, St.tickS, St.outF, St.outS, St.tells, takesF]
theorem nextE : (Rd.start []).next = Rd.start [] := by
  simp [Rd.next, Rd.a2, Rd.b2, Rd.told, Rd.aF, Rd.a1, Rd.b1, Rd.bF, Rd.start, sendA, waits, St.new, St.tickS, St.outF, St.outS, St.tells, takesF]

section
variable {V : List ByteArray} (hl : V.length ≤ 64) (hs : ∀ x ∈ V, x.size ≤ 3000)
include hl hs
theorem ok0 : (Rd.start V).Ok := by
  cases V with
  | nil =>
    have e1 : (Rd.start []).aF = [] := by simp [Rd.aF, Rd.start, tickA0, outA0, tells]
    have e3 : (Rd.start []).b1 = St.new 2 1 1 := by rw [Rd.b1, e1]; rfl
    refine ⟨by simp [Rd.start, sendA, waits], fun x hx => by simp [Rd.start, sendA, waits] at hx, ?_, ?_, ?_, ?_⟩
    · rw [e1]; exact OkTs.nil _
    · rw [e3]; simp [St.new]
    · have e2 : (Rd.start []).bF = [] := by rw [Rd.bF, e3]; rfl
      rw [e2]; exact OkTs.nil _
    · simp [Rd.told, e1, takesF]
  | cons d V =>
    have h1 : (Rd.start (d :: V)).aF = tells 0 (d :: V) 0 := by simp [Rd.aF, Rd.start, tickA0, outA0]
    have h2 : (Rd.start (d :: V)).a1 = (sendA (d :: V)).outS := by simp [Rd.a1, Rd.start, tickA0]
    have h3 : (Rd.start (d :: V)).b1 = B1 true 0 := by rw [Rd.b1, h1]; exact congrArg Prod.snd (learns1 d V 0)
    have h4 : (Rd.start (d :: V)).told = [] := by rw [Rd.told, h1]; exact congrArg Prod.fst (learns1 d V 0)
    have h5 : (Rd.start (d :: V)).bF = [⟨2, 1, 1, 1, 0, 0, ⟨#[]⟩, false⟩] := by rw [Rd.bF, h3]; rfl
    refine ⟨by simp only [Rd.start, sendA, waits_len]; exact hl, fun x hx => ?_, ?_, ?_, ?_, ?_⟩
    · have := mem_waits (show x ∈ waits (d :: V) 0 from hx)
      omega
    · rw [h1]
      intro k f hf
      obtain ⟨f1, f2, f3, f4, f5, f6, f7⟩ := mem_tells hf
      have hst : (takesF (Rd.start (d :: V)).b ((tells 0 (d :: V) 0).take k)).2 = if k = 0 then St.new 2 1 1 else B1 true 0 := by
        rw [tells_take]
        cases k with
        | zero => rfl
        | succ k => exact congrArg Prod.snd (learns1 d (V.take k) 0)
      have hlk : ((d :: V).length : Int) ≤ 64 := by omega
      rw [hst]
      split
      · exact ⟨by simp [St.new], f1, f2, by omega, by simp only [St.new]; omega, by simp only [St.new]; omega, by omega, by simp [St.takeS1, St.new, f3, St.greaterS], by simp [St.takeS1, St.new, f3, St.greaterS], hs _ f7⟩
      · exact ⟨by simp [B1], f1, f2, by omega, by simp only [B1]; omega, by simp only [B1]; omega, by omega, by simp [St.takeS1, B1, f3], by simp [St.takeS1, B1, f3], hs _ f7⟩
    · rw [h3]; simp [B1]
    · rw [h5, h2]
      refine OkTs.cons ⟨?_, rfl, rfl, by simp, by simp [sendA, St.outS], by simp [sendA, St.outS], by simp, by simp [St.takeS1, sendA, St.outS, St.greaterS], by simp [St.takeS1, sendA, St.outS, St.greaterS], by decide⟩ (OkTs.nil _)
      simp only [sendA, St.outS, List.length_map, waits_len]
      exact hl
    · simp [h4]
theorem ok1 : (R1 V).Ok := by
  have h1 : (R1 V).aF = tells 1 V 0 := by simp [Rd.aF, R1, tickA1, outA1]
  have h2 : (R1 V).a1 = (A1 V).outS := by simp [Rd.a1, R1, tickA1]
  have h8 := tells1 V 0 false
  have h3 : (R1 V).b1 = B1 (!V.isEmpty) V.length := by
    rw [Rd.b1, h1]
    refine (congrArg Prod.snd h8).trans ?_
    simp
  have h4 : (R1 V).told = V := by rw [Rd.told, h1]; exact congrArg Prod.fst h8
  have hlk : (V.length : Int) ≤ 64 := by omega
  refine ⟨by simp only [R1, A1, waits_len]; exact hl, fun x hx => ?_, ?_, ?_, ?_, ?_⟩
  · have := mem_waits (show x ∈ waits V 0 from hx)
    omega
  · rw [h1]
    intro k f hf
    obtain ⟨f1, f2, f3, f4, f5, f6, f7⟩ := mem_tells hf
    have hst : (takesF (R1 V).b ((tells 1 V 0).take k)).2 = B1 (!(V.take k).isEmpty) ((V.take k).length) := by
      rw [tells_take]
      refine (congrArg Prod.snd (tells1 (V.take k) 0 false)).trans ?_
      simp
    rw [hst]
    have hk : ((V.take k).length : Int) ≤ 64 := by simp; omega
    exact ⟨by simp [B1], f1, f2, by omega, by simp only [B1]; omega, by simp only [B1]; omega, by omega, by simp only [St.takeS1, B1, f3]; simp; omega, by simp [St.takeS1, B1, f3], hs _ f7⟩
  · rw [h3]; simp [B1]
  · rw [Rd.bF, h3, h2]
    cases V with
    | nil => exact OkTs.nil _
    | cons d V =>
      refine OkTs.cons ⟨?_, rfl, rfl, by simp [St.frame, B1], by simp [A1, St.outS, St.frame, B1], by simp [A1, St.outS, St.frame, B1], by simp [St.frame], by simp [St.takeS1, A1, St.outS, St.frame, B1], by simp [St.takeS1, A1, St.outS, St.frame, B1], by show ByteArray.size ⟨#[]⟩ ≤ 3000; decide⟩ (OkTs.nil _)
      simp only [A1, St.outS, List.length_map, waits_len]
      exact hl
  · rw [h4]; exact hl
omit hl hs in
theorem ok2 : (R2 V).Ok := by
  have e1 : (R2 V).aF = [] := by simp [Rd.aF, R2, A2, St.tickS, St.outF, St.tells]
  have e3 : (R2 V).b1 = B1 false V.length := by rw [Rd.b1, e1]; rfl
  have e2 : (R2 V).bF = [] := by rw [Rd.bF, e3]; rfl
  refine ⟨by simp [R2, A2], fun x hx => by simp [R2, A2] at hx, ?_, ?_, ?_, ?_⟩
  · rw [e1]; exact OkTs.nil _
  · rw [e3]; simp [B1]
  · rw [e2]; exact OkTs.nil _
  · simp [Rd.told, e1, takesF]
theorem run_ok (k : Nat) : (Rd.run V k).Ok ∧ (Rd.run V k).G.length ≤ 64 ∧ (2 ≤ k → (Rd.run V k).G = V ∧ (Rd.run V k).a.out = []) := by
  cases V with
  | nil =>
    have e : Rd.run [] k = Rd.start [] := by
      induction k with
      | zero => rfl
      | succ k ih => rw [Rd.run, ih, nextE]
    rw [e]
    exact ⟨ok0 hl hs, by simp [Rd.start], fun _ => ⟨rfl, rfl⟩⟩
  | cons d V =>
    match k with
    | 0 => exact ⟨ok0 hl hs, by simp [Rd.run, Rd.start], fun h => absurd h (by omega)⟩
    | 1 =>
      rw [show Rd.run (d :: V) 1 = R1 (d :: V) from next0 d V]
      exact ⟨ok1 hl hs, by simp [R1], fun h => absurd h (by omega)⟩
    | k + 2 =>
      have e : Rd.run (d :: V) (k + 2) = R2 (d :: V) := by
        induction k with
        | zero => rw [Rd.run, show Rd.run (d :: V) 1 = R1 (d :: V) from next0 d V, next1]
        | succ k ih => rw [Rd.run, ih, next2]
      rw [e]
      exact ⟨ok2, hl, fun _ => ⟨rfl, rfl⟩⟩
end
end Go.Proofs.Ytoegkgebmldhaaa
