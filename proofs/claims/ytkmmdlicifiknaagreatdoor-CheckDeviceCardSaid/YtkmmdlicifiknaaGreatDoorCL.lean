/- An excluded block that holds no cells may change: what is related stays related. Joined texts, each with what its own name promises; no condition beyond those stated. -/
import Derived.Test.YtkmmdlicifiknaaGreatDoorCB
import Derived.RangeFuncCalls
import Derived.RangeFuncIn
import Derived.TacticsIn
import Derived.RangeFuncSeq
import Derived.Test.YtkmmdlicifiknaaGreatDoorCG
import Derived.Defers
import Derived.Laws.Externs
import Derived.Recover
import Derived.RangeFuncLeaves
import Derived.Test.YtkmmdlicifiknaaGreatDoorCK
import Derived.Test.YtkmmdlicifiknaaGreatDoorCC
set_option maxHeartbeats 0
set_option maxRecDepth 100000
set_option linter.all false
namespace Go.Abs
structure Chg(r:Nat)(W W':World):Prop where
 os:W'.os=W.os
 tape:W'.tape=W.tape
 output:W'.output=W.output
 size:W.heap.size<=W'.heap.size
 keep:∀b,b<W.heap.size->b≠r->W'.heap[b]?=W.heap[b]?
 none:W.shape? r=none
section
variable{E:Env}{r:Nat}{m:Mu}{W W':World}
theorem b5B(hX:E.X r):Cmp some E.cx (E.wX fun b=>E.X b/\b≠r).cx m (m++[.blk r]) where
 szs:=rfl
 id:=fun i j h hi=>by
  cases h
  refine ⟨by rw [List.length_append];exact Nat.lt_of_lt_of_le hi (Nat.le_add_right _ _),fun x _ h=>?_⟩
  rwa [List.getElem?_append_left hi] at h
 sub:=fun b h=>by
  rcases h with h|h
  ·rcases List.mem_append.1 h with h|h
   ·exact .inl h
   ·have:b=r:=by simpa using h
    subst this;exact .inr hX
  ·exact .inr h.1
def b9j(n:Nat)(i:Nat):Option Nat:=if i<n then some i else none
theorem b5D:Cmp (b9j m.length) (E.wX fun b=>E.X b/\b≠r).cx E.cx (m++[.blk r]) m where
 szs:=rfl
 id:=fun i j h hi=>by
  unfold b9j at h
  split at h
  ·rename_i hl
   cases h
   exact ⟨hl,fun x _ h=>by rwa [List.getElem?_append_left hl]⟩
  ·cases h
 sub:=fun b h=>by
  rcases h with h|h
  ·exact .inl (List.mem_append.2 (.inl h))
  by_cases hb:b=r
  ·subst hb;exact .inl (List.mem_append.2 (.inr (by simp)))
  ·exact .inr ⟨h,hb⟩
theorem Chg.ext(h:Chg r W W'):Ext (m++[.blk r]) W (m++[.blk r]) W' where
 os:=h.os
 tape:=h.tape
 output:=h.output
 size:=h.size
 keep:=fun b hb hn=>h.keep b hb fun e=>hn (by subst e;simp)
 fresh:=fun _ _ h=>h
 len:=Nat.le_refl _
 ids:=fun _ _ _ _ h=>h
 shape:=fun b s hs=>by
  by_cases hb:b=r
  ·subst hb;rw [h.none] at hs;cases hs
  have hlt:b<W.heap.size:=by
   unfold World.shape? at hs
   rcases Nat.lt_or_ge b W.heap.size with h1|h1
   ·exact h1
   ·rw [Array.getElem?_eq_none h1] at hs;cases hs
  unfold World.shape? at hs ⊢
  rw [h.keep b hlt hb];exact hs
theorem Rel.chg(hX:E.X r)(h:Chg r W W'){x:AV}{v:Value}(hr:E.Rel m W x v):E.Rel m W' x v :=
 Rel.cmp b5D (n:=m.length) (fun i hi=>if_pos hi) x (Rel.ids x hr) ((Rel.cmp_all (b5B hX) hr).ext h.ext)
theorem OB.chg(hX:E.X r)(h:Chg r W W'){o:AO}{x:MS}(hx:∀b,x=.blk b->b≠r)(ho:OB E.cx m W o x):OB E.cx m W' o x:=by
 have h1:OB (E.wX fun b=>E.X b/\b≠r).cx (m++[.blk r]) W o x:=OB.cmp (b5B hX) (n:=m.length) (fun _ _=>rfl) (OB.ids ho) ho
 have h2:OB (E.wX fun b=>E.X b/\b≠r).cx (m++[.blk r]) W' o x:=h1.ext h.ext fun b hb=>by
  subst hb
  exact h.keep b h1.lt (hx b rfl)
 exact OB.cmp b5D (n:=m.length) (fun i hi=>if_pos hi) (OB.ids ho) h2
theorem Sim.chg(hX:E.X r)(h:Chg r W W'){H:Hp}(hs:E.Sim m W H):E.Sim m W' H where
 len:=hs.len
 live:=fun id o ho=>by
  obtain ⟨x,h1,h2⟩:=hs.live id o ho
  refine ⟨x,h1,OB.chg hX h (fun b hb=>?_) h2⟩
  subst hb
  rintro rfl
  exact hs.disj b (List.mem_of_getElem? h1) hX
 dead:=hs.dead
 inj:=hs.inj
 xlt:=fun b hb=>Nat.lt_of_lt_of_le (hs.xlt b hb) h.size
 disj:=hs.disj
end
end Go.Abs
namespace Go.Abs
theorem c2Q{P:Program}{row:String}{args:Array Value}{w:World}{R:Value->World->Prop}{n l:Nat}(h:Rows P row args w R):RowsIn (Fence.wide.inRound l) n P row args w R:=fun c cs _=>by
 obtain ⟨v,w',h1,h2⟩:=h c cs
 exact ⟨v,w',h1,stepsIn_wide.2 h2⟩
theorem c5S{P:Program}{o:Oper}{a:Act}{w:World}{K:Act->World->Prop}{Q:Exit->Act->World->Prop}(l:Nat)(n:Nat)(hd:∀c,o.op≠.defer c)(h:o.wp P a w K Q):o.wpIn (Fence.wide.inRound l) n P a w K Q:=by
 refine ⟨fun _ _=>trivial,?_⟩
 rw [Oper.semAt_eq _ _ _ hd]
 unfold Oper.wp at h
 generalize (execOp a.eval o).run P w=r at h ⊢
 cases r with
 | ok x w' =>
  cases x<;>simp only [Oper.upon,Oper.uponIn] at h ⊢<;>first
   | exact h
   | exact ⟨fun hh=>(by cases hh),(callsIn_wide (n:=n - 1).2 h).inRound l⟩
   | exact ⟨fun hh=>(by cases hh),c2Q h⟩
   | exact h.elim
 | halt x w'=>cases x<;>simp only [Oper.upon,Oper.uponIn] at h ⊢<;>exact h
def b1M(l:List Oper):Bool:=l.all fun o=>match o.op with
 | .defer _=>false
 | _=>true
theorem a4Y{E:Env}{N:Nat}{ops:Array Oper}{Q':Exit->Act->World->Prop}(lb n:Nat):∀(l:List Oper) (K:St->Prop) (s:St) (m0:Mu) (w0:World) (m:Mu) (w:World) (a:Act),a2l N l=true->b1M l=true ->
  Ext m0 w0 m w->a2k E N m w s a->a1p E ops l K s->(∀m' w' s' a',Ext m0 w0 m' w'->a2k E N m' w' s' a'->K s'->Q' .normal a' w') ->
  wpListIn (Fence.wide.inRound lb) n E.P ops Q' l a w
 | [],K,s,m0,w0,m,w,a,_,_,he,hs,h,hQ=>by
  obtain ⟨sl',h1,h2⟩:=h
  have hs':a2k E N m w ⟨sl',s.hp⟩ a:=⟨hs.ok,fun k=>(h1 k) ▸ hs.slots k,hs.size,hs.defers,hs.sim,hs.glob⟩
  exact hQ m w _ a he hs' h2
 | o::rest,K,s,m0,w0,m,w,a,hd,hnd,he,hs,h,hQ=>by
  simp only [a2l,List.all_cons,Bool.and_eq_true] at hd
  simp only [b1M,List.all_cons,Bool.and_eq_true] at hnd
  have hd1:∀k,o.dst=some k->k<N:=fun k hk=>by
   have:=hd.1;rw [hk] at this;simpa using this
  have hd2:∀c,o.op≠.defer c:=fun c hc=>by
   have:=hnd.1;rw [hc] at this;cases this
  simp only [a1p] at h
  unfold wpListIn
  cases hw:a0H ops o s.sl with
  | none=>rw [hw] at h;exact h.elim
  | some b =>
   rw [hw] at h
   rw [a3B hs hw]
   cases b with
   | true =>
    simp only [if_true]
    refine c5S lb n hd2 (Oper.wp_mono ?_ (h m w a hs.ok (a5w hs) hs.sim hs.defers _))
    rintro a' w' ⟨v',rfl,m',r,H',h1,h2,h3,h4⟩
    exact a4Y lb n rest K _ m0 w0 m' w' _ hd.2 hnd.2 (he.trans h1) (hs.put h1 hd1 h2 h3) h4 hQ
   | false =>
    simp only [Bool.false_eq_true,if_false]
    exact ⟨fun _ _=>trivial,a4Y lb n rest K _ m0 w0 m w _ hd.2 hnd.2 he (hs.put (Ext.refl m w) hd1 a3y hs.sim) h hQ⟩
def b8u(E:Env)(N lb n:Nat)(c:Code)(Q:St->Prop)(s:St):Prop :=
 ∀(m:Mu) (w:World) (a:Act) (Q':Exit->Act->World->Prop),a2k E N m w s a->(∀m' w' s' a',Ext m w m' w'->a2k E N m' w' s' a'->Q s'->Q' .normal a' w')->c.wpIn (Fence.wide.inRound lb) n E.P Q' a w
section
variable{E:Env}{N lb n:Nat}{s:St}{Q:St->Prop}
theorem a4Z{id:Nat}{l:List Oper}(hd:a2l N l=true)(hn:b1M l=true)(h:a1p E l.toArray l Q s):b8u E N lb n (.region id l.toArray false) Q s :=
 fun m w _ _ hs hQ=>wpIn_region_lit (a4Y lb n l Q s m w m w _ hd hn (Ext.refl m w) hs h hQ)
theorem b8I{x y:Code}(h:b8u E N lb n x (b8u E N lb n y Q) s):b8u E N lb n (.seq x y) Q s :=
 fun m w _ _ hs hQ=>wpIn_seq (h m w _ _ hs fun m' w' _ _ he hs' hy=>hy m' w' _ _ hs' fun m2 w2 s2 a2 he2 hs2 hq=>hQ m2 w2 s2 a2 (he.trans he2) hs2 hq)
theorem b4g{id:Nat}{c:Code}(h:b8u E N lb n c Q s):b8u E N lb n (.block id c) Q s :=
 fun m w _ _ hs hQ=>wpIn_block (h m w _ _ hs fun m' w' s' a' he hs' hq=>hQ m' w' s' a' he hs' hq)
end
theorem b1o{W:World}{l:Nat}{rc:Loop}(o:Obj)(h:W.heap[l]?=some (.loop rc)):Chg l W (W.putObj l o) :=
 ⟨rfl,rfl,rfl,by rw [World.putObj_size];exact Nat.le_refl _,fun b _ hb=>World.putObj_heap_other hb,by unfold World.shape?;rw [h]⟩
theorem a2k.chg{E:Env}{N:Nat}{m:Mu}{W W':World}{s:St}{a:Act}{l:Nat}(hX:E.X l)(h:Chg l W W')(hs:a2k E N m W s a):a2k E N m W' s a :=
 ⟨hs.ok,fun k=>Rel.chg hX h (hs.slots k),hs.size,hs.defers,Sim.chg hX h hs.sim,fun g=>Rel.chg hX h (hs.glob g)⟩
theorem b1N{E:Env}{N:Nat}{m:Mu}{W:World}{s:St}{a:Act}{l:Nat}(hX:E.X l)(hs:a2k E N m W s a):MS.blk l ∉ m:=fun h=>hs.sim.disj l h hX
theorem c0t{E:Env}{N l n p:Nat}{rc:Loop}(hX:E.X l){m:Mu}{W:World}{H H':Hp}{sl:List (Nat × AV)}{x:AV}{v:Value}(hL:W.heap[l]?=some (.loop rc))(hr:rc.state=.ready)(hp0:rc.pending=none)
  (hps:rc.params=#[p]) (hpN:p<N) (hs:a2k E N m W ⟨sl,H⟩ { tmps:=rc.tmps,defers:=[] }) (hx:E.Rel m W x v)
  (hround:b8u E N l n rc.assign (b8u E N l n rc.body (fun s=>s.hp=H')) ⟨put (some p) x sl,H⟩) :
  YieldAt Fence.wide n E.P l #[v] W (fun e W'=>e=.returned (.bool true)/\∃m',Ext m W m' W'/\E.Sim m' W' H'/\W'.heap[l]?=some (.loop rc)):=by
 have hl:l<W.heap.size:=(Array.getElem?_eq_some_iff.1 hL).1
 have hnm:=b1N hX hs
 refine ⟨_,_,_,_,run_yield hL (by rw [hps];rfl),roundIn_of_wpIn trivial ?_⟩
 have hz:((#[p].zip #[v]).foldl (fun (tmps:Array Value) ((t,a):Tmp × Value)=>tmps.setIfInBounds t a) rc.tmps)=rc.tmps.setIfInBounds p v:=by simp
 rw [hps]
 have hs1:a2k E N m W ⟨put (some p) x sl,H⟩ (({ tmps:=rc.tmps,defers:=[] }:Act).put (some p) v):=hs.put (Ext.refl m W) (fun k hk=>by cases hk;exact hpN) hx hs.sim
 rw [hz]
 refine hround m W _ _ hs1 ?_
 intro m1 W1 s1 a1 he1 hs1' hbody
 have hL1:W1.heap[l]?=some (.loop rc):=(he1.keep l hl hnm).trans hL
 have hc1:=b1o (.loop { rc with state:=.busy }) hL1
 refine ⟨_,run_beginRound hL1 hr,?_⟩
 have hs2:=a2k.chg hX hc1 hs1'
 have hl1:l<W1.heap.size:=(Array.getElem?_eq_some_iff.1 hL1).1
 refine hbody m1 _ _ _ hs2 ?_
 intro m3 W3 s3 a3 he3 hs3 hH
 have hnm2:=b1N hX hs2
 have hL3:W3.heap[l]?=some (.loop { rc with state:=.busy }):=(he3.keep l (by rw [World.putObj_size];exact hl1) hnm2).trans (World.putObj_heap_same hl1)
 have hl3:l<W3.heap.size:=(Array.getElem?_eq_some_iff.1 hL3).1
 have hrc:({ { rc with state:=LoopState.busy } with state:=if (none:Option Code).isNone then LoopState.ready else LoopState.done,pending:=none }:Loop)=rc:=by
  cases rc;simp only at hr hp0;subst hr hp0;rfl
 have hend:=run_endRound (P:=E.P) none hL3
 rw [hrc] at hend
 have hc3:=b1o (.loop rc) hL3
 have hs4:=a2k.chg hX hc3 hs3
 refine ⟨_,_,hend,rfl,m3,?_,by rw [<- hH];exact hs4.sim,World.putObj_heap_same hl3⟩
 exact {
  os:=he3.os.trans he1.os
  tape:=he3.tape.trans he1.tape
  output:=he3.output.trans he1.output
  size:=by
   have h1:=he1.size
   have h3:=he3.size
   rw [World.putObj_size] at h3 ⊢
   omega
  keep:=fun b hb hn=>by
   by_cases hbl:b=l
   ·subst hbl
    rw [World.putObj_heap_same hl3,hL]
   have hn1:MS.blk b ∉ m1:=fun hm=>hn (he1.fresh b hb hm)
   rw [World.putObj_heap_other hbl,he3.keep b (by rw [World.putObj_size];exact Nat.lt_of_lt_of_le hb he1.size) hn1,World.putObj_heap_other hbl]
   exact he1.keep b hb hn
  fresh:=fun b hb hm=>he1.fresh b hb (he3.fresh b (by rw [World.putObj_size];exact Nat.lt_of_lt_of_le hb he1.size) hm)
  len:=Nat.le_trans he1.len he3.len
  ids:=fun i y hi hy h=>he1.ids i y hi hy (he3.ids i y (Nat.lt_of_lt_of_le hi he1.len) hy h)
  shape:=fun b q hq=>by
   have h1:=he1.shape b q hq
   have hbl:b≠l:=by
    rintro rfl
    unfold World.shape? at hq
    rw [hL] at hq;cases hq
   have h2:(W1.putObj l (.loop { rc with state:=.busy })).shape? b=some q:=by
    unfold World.shape? at h1 ⊢
    rw [World.putObj_heap_other hbl];exact h1
   have h3:=he3.shape b q h2
   unfold World.shape? at h3 ⊢
   rw [World.putObj_heap_other hbl];exact h3 }
end Go.Abs
namespace Go.Abs
def b1a(E:Env)(N n0:Nat)(Φ:Mu->World->Prop)(c:Code)(Q:Exit->St->Prop)(s:St):Prop :=
 ∀m0 w0,m0.length=n0->Φ m0 w0->∀m w a,Ext m0 w0 m w->a2k E N m w s a->c.wp E.P (b8C E N m0 w0 Q) a w
section
variable{E:Env}{N n0:Nat}{Φ:Mu->World->Prop}{Q:Exit->St->Prop}{s:St}
theorem a1X{c:Code}(h:AWp E N n0 c Q s):b1a E N n0 Φ c Q s:=fun m0 w0 hn _ m w a he hs=>h m0 w0 hn m w a he hs
theorem b2E{c:Code}{s':St}(i:Imp E N n0 s s')(h:b1a E N n0 Φ c Q s'):b1a E N n0 Φ c Q s :=
 fun m0 w0 hn hφ m w a he hs=>let ⟨m',h1,h2⟩:=i m0 w0 hn m w a he hs;h m0 w0 hn hφ m' w a h1 h2
theorem a1Q{x y:Code}(h:b1a E N n0 Φ x (a5W (b1a E N n0 Φ y Q) Q) s):b1a E N n0 Φ (.seq x y) Q s:=by
 intro m0 w0 hn hφ m w a he hs
 refine wp_seq (wp_mono (h m0 w0 hn hφ m w a he hs) ?_)
 rintro e a' w' ⟨m',s',h1,h2,h3⟩
 cases e with
 | normal=>exact h3 m0 w0 hn hφ m' w' a' h1 h2
 | _=>exact ⟨m',s',h1,h2,h3⟩
theorem a4A{id:Nat}{c:Code}(h:b1a E N n0 Φ c (a4M id Q) s):b1a E N n0 Φ (.block id c) Q s:=by
 intro m0 w0 hn hφ m w a he hs
 refine wp_block (wp_mono (h m0 w0 hn hφ m w a he hs) ?_)
 rintro e a' w' ⟨m',s',h1,h2,h3⟩
 cases e with
 | exit i =>
  simp only [a4M] at h3
  simp only [Exit.inBlock]
  split
  ·rename_i hi;rw [if_pos hi] at h3;exact ⟨m',s',h1,h2,h3⟩
  ·rename_i hi;rw [if_neg hi] at h3;exact ⟨m',s',h1,h2,h3⟩
 | _=>exact ⟨m',s',h1,h2,h3⟩
theorem b0d{ι:Type}(σ:ι->St)(μ:ι->Nat)(i0:ι){c:Code}(h0:Imp E N n0 s (σ i0))
  (round:∀i,b1a E N n0 Φ c (a5W (fun s'=>∃j,μ j < μ i/\Imp E N n0 s' (σ j)) Q) (σ i)):b1a E N n0 Φ (.loop c) Q s:=by
 intro m0 w0 hn hφ m w a he hs
 obtain ⟨m',h1,h2⟩:=h0 m0 w0 hn m w a he hs
 intro b k cs
 have key:∀n i m w a,μ i=n->Ext m0 w0 m w->a2k E N m w (σ i) a ->
   ∃e a' w',b8C E N m0 w0 Q e a' w'/\Arrives E.P (lone (b.at a (.code c::.inLoop c::k)) cs w) b k cs e a' w':=by
  intro n
  induction n using Nat.strongRecOn with
  | _ n ih =>
   intro i m w a hi he hs
   obtain ⟨e,a',w',⟨m',s',h1,h2,h3⟩,harr⟩:=round i m0 w0 hn hφ m w a he hs b (.inLoop c::k) cs
   cases e with
   | normal =>
    obtain ⟨j,hj,hi'⟩:=h3
    obtain ⟨m2,h4,h5⟩:=hi' m0 w0 hn m' w' a' h1 h2
    obtain ⟨e2,a2,w2,hq2,harr2⟩:=ih (μ j) (hi ▸ hj) j m2 w' a' rfl h4 h5
    exact ⟨e2,a2,w2,hq2,.of_steps (Steps.trans harr (.one step_inLoop)) harr2⟩
   | exit id=>exact ⟨_,a',w',⟨m',s',h1,h2,h3⟩,.pass (x:=.inLoop c) rfl (fun _ _=>.inl (by simp)) harr⟩
   | goto l=>exact ⟨_,a',w',⟨m',s',h1,h2,h3⟩,.pass (x:=.inLoop c) rfl (fun _ _=>.inl (by simp)) harr⟩
   | ret=>exact ⟨_,a',w',⟨m',s',h1,h2,h3⟩,.pass (x:=.inLoop c) rfl (fun _ _=>.inl (by simp)) harr⟩
   | panic ch=>exact ⟨_,a',w',⟨m',s',h1,h2,h3⟩,.pass (x:=.inLoop c) rfl (fun _ _=>.inl (by simp)) harr⟩
   | outgrown=>exact ⟨_,a',w',⟨m',s',h1,h2,h3⟩,.pass (x:=.inLoop c) rfl (fun _ _=>.inl (by simp)) harr⟩
 obtain ⟨e,a',w',hq,harr⟩:=key _ i0 m' w a rfl h1 h2
 exact ⟨e,a',w',hq,.of_steps (.one step_loop) harr⟩
theorem b5w{H:Hp}{f:FuncId}{fn:Func}{c:Code}{args:List AV}{R:AV → Hp → Prop}{Φ:Mu → World → Prop}(hf:E.P.funcs[f]?=some fn)(hb:fn.body=some c)(hn:fn.ntmps=N)(hname:(fn.name == "runtime.NumGoroutine")=false)(hl:Nat.ble args.length N=true)
  (h:HOk H.length H->(∀x∈args,a0d H.length x)->b1a E N H.length Φ c (b1g E fn.results.toList R) ⟨slots 0 args,H⟩):∀(m:Mu) (w:World) (vs:List Value),E.Ok->c3t E m w->Φ m w->E.RelL m w args vs->E.Sim m w H ->
  Calls E.P f vs.toArray w fun e w'=>∃v m' r H',e=.returned v/\Ext m w m' w'/\E.Rel m' w' r v/\E.Sim m' w' H'/\R r H':=by
 intro m w vs hok hglob hφ hargs hsim
 have hvl:=hargs.length
 have hle:args.length<=N:=Nat.le_of_ble_eq_true hl
 have hids:∀x∈args,a0d H.length x:=fun x hx=>by
  obtain ⟨i,hi,he⟩:=List.getElem_of_mem hx
  obtain ⟨u,_,hu⟩:=hargs.get i (x:=x) (by rw [List.getElem?_eq_getElem hi,he])
  rw [<- hsim.len];exact Rel.ids x hu
 refine calls_of_wp hf hb ?_
 have hs0:a2k E N m w ⟨slots 0 args,H⟩ { tmps:=vs.toArray++Array.replicate (fn.ntmps - vs.toArray.size) undef,defers:=[] }:=by
  refine ⟨hok,fun k=>?_,?_,rfl,hsim,hglob⟩
  ·show Abs.Rel E.cx m w (get (slots 0 args) k) _
   rw [a5C]
   simp only [Nat.zero_le,if_true,Nat.sub_zero]
   cases hk:args[k]? with
   | none=>simp [Abs.Rel]
   | some x =>
    obtain ⟨u,h1,h2⟩:=hargs.get k hk
    have hlt:k<vs.length:=(List.getElem?_eq_some_iff.1 h1).1
    have:(vs.toArray++Array.replicate (fn.ntmps - vs.toArray.size) undef).getD k undef=u:=by
     rw [Array.getD_eq_getD_getElem?,Array.getElem?_append_left (by simpa using hlt)]
     simp [h1]
    show Abs.Rel E.cx m w x ((vs.toArray++Array.replicate (fn.ntmps - vs.toArray.size) undef).getD k undef)
    rw [this]
    exact h2
  ·simp;omega
 refine wp_mono (h hsim.hok hids m w hsim.len hφ m w _ (Ext.refl m w) hs0) ?_
 rintro e a' w' ⟨m',s',h1,h2,h3⟩
 have fin:(∃xs,b4J E s' fn.results.toList=some xs/\R (one xs) s'.hp)->a'.defers=[]/\∃v,(results fn a'.tmps).run E.P w'=.ok v w' /\
   ∃v2 m' r H',Ending.returned v=.returned v2/\Ext m w m' w'/\E.Rel m' w' r v2/\E.Sim m' w' H'/\R r H':=by
  rintro ⟨xs,h4,h5⟩
  obtain ⟨us,h6,h7'⟩:=a3Q h2 fn.results.toList h4
  have h7:Abs.RelL E.cx m' w' xs us:=h7'
  refine ⟨h2.defers,if h:us.toArray.size=1 then us.toArray[0] else .tuple us.toArray,?_,_,m',one xs,s'.hp,rfl,h1,?_,h2.sim,h5⟩
  ·rw [a6v,Array.mapM_eq_mapM_toList]
   simp only [Sem.run_bind,Sem.run_map,h6,Result.andThen_ok,Sem.run_pure]
  have hul:=h7.length
  cases xs with
  | nil =>
   rw [a1l] at h7;subst h7
   show Abs.Rel E.cx m' w' (.tup []) (.tuple #[])
   simp [Abs.Rel,Abs.RelL]
  | cons x xs =>
   cases xs with
   | nil =>
    rw [a0o] at h7
    obtain ⟨u,r,rfl,h8,h9⟩:=h7
    rw [a1l] at h9;subst h9
    simpa [one] using h8
   | cons y ys =>
    have hne:¬ us.toArray.size=1:=by simp [hul]
    rw [dif_neg hne]
    show Abs.Rel _ _ _ _ _
    simp only [one,Abs.Rel]
    exact ⟨us,rfl,h7⟩
 cases e with
 | normal=>exact fin h3
 | ret=>exact fin h3
 | _=>exact h3.elim
end
theorem c2m{P:Program}{o:Oper}{a:Act}{w:World}{K:Act->World->Prop}{Q:Exit->Act->World->Prop}(n:Nat)(h:o.wp P a w K Q):o.wpIn Fence.wide n P a w K Q:=by
 refine ⟨fun _ _=>trivial,?_⟩
 show o.uponIn Fence.wide n P a K Q ((execOp a.eval o).run P w)
 unfold Oper.wp at h
 generalize (execOp a.eval o).run P w=r at h ⊢
 cases r with
 | ok x w' =>
  cases x<;>simp only [Oper.upon,Oper.uponIn] at h ⊢<;>first
   | exact h
   | exact ⟨fun hh=>(by cases hh),callsIn_wide (n:=n - 1).2 h⟩
   | exact ⟨fun hh=>(by cases hh),fun c cs _=>by
     have ⟨v,w',h1,h2⟩:=h c cs
     exact ⟨v,w',h1,stepsIn_wide.2 h2⟩⟩
   | exact h.elim
 | halt x w'=>cases x<;>simp only [Oper.upon,Oper.uponIn] at h ⊢<;>exact h
theorem a3H{E:Env}{N:Nat}{ops:Array Oper}{Q':Exit->Act->World->Prop}(n:Nat)(more:List Oper):∀(l:List Oper) (K:St->Prop) (s:St) (m0:Mu) (w0:World) (m:Mu) (w:World) (a:Act),a2l N l=true ->
  Ext m0 w0 m w->a2k E N m w s a->a1p E ops l K s->(∀m' w' s' a',Ext m0 w0 m' w'->a2k E N m' w' s' a'->K s'->wpListIn Fence.wide n E.P ops Q' more a' w') ->
  wpListIn Fence.wide n E.P ops Q' (l++more) a w
 | [],K,s,m0,w0,m,w,a,_,he,hs,h,hQ=>by
  obtain ⟨sl',h1,h2⟩:=h
  have hs':a2k E N m w ⟨sl',s.hp⟩ a:=⟨hs.ok,fun k=>(h1 k) ▸ hs.slots k,hs.size,hs.defers,hs.sim,hs.glob⟩
  exact hQ m w _ a he hs' h2
 | o::rest,K,s,m0,w0,m,w,a,hd,he,hs,h,hQ=>by
  simp only [a2l,List.all_cons,Bool.and_eq_true] at hd
  have hd1:∀k,o.dst=some k->k<N:=fun k hk=>by
   have:=hd.1;rw [hk] at this;simpa using this
  simp only [a1p] at h
  rw [List.cons_append]
  unfold wpListIn
  cases hw:a0H ops o s.sl with
  | none=>rw [hw] at h;exact h.elim
  | some b =>
   rw [hw] at h
   rw [a3B hs hw]
   cases b with
   | true =>
    simp only [if_true]
    refine c2m n (Oper.wp_mono ?_ (h m w a hs.ok (a5w hs) hs.sim hs.defers _))
    rintro a' w' ⟨v',rfl,m',r,H',h1,h2,h3,h4⟩
    exact a3H n more rest K _ m0 w0 m' w' _ hd.2 (he.trans h1) (hs.put h1 hd1 h2 h3) h4 hQ
   | false =>
    simp only [Bool.false_eq_true,if_false]
    exact ⟨fun _ _=>trivial,a3H n more rest K _ m0 w0 m w _ hd.2 he (hs.put (Ext.refl m w) hd1 a3y hs.sim) h hQ⟩
def YOK(E:Env)(n0 n l:Nat)(Φ:Mu->World->Prop)(x:AV)(H H':Hp):Prop :=
 ∀m0 w0,m0.length=n0->Φ m0 w0->∀m w v,Ext m0 w0 m w->E.Ok->c3t E m w->E.Rel m w x v->E.Sim m w H ->
  YieldAt Fence.wide n E.P l #[v] w fun e w'=>e=.returned (.bool true)/\∃m',Ext m w m' w'/\E.Sim m' w' H'
theorem b1k{E:Env}{N n0 n:Nat}{Φ:Mu->World->Prop}{Q:Exit->St->Prop}{s:St}{id l:Nat}{pre post:List Oper}{d:Nat}{f x:Operand}{tys:Array TypeId}{ty:TypeId}{pos:String}{after:Array Edge}{g:Option (Nat × Bool)}{all:List Oper}
  (hall:all=pre++⟨some d,.call ⟨.value f,#[x],tys⟩,ty,pos,after,g⟩::post) (hd:a2l N all=true)
  (h:a1p E all.toArray pre (fun s1=>a0H all.toArray ⟨some d,.call ⟨.value f,#[x],tys⟩,ty,pos,after,g⟩ s1.sl=some true/\ev E s1.sl f=.clo (.yield l) [] [] /\
   ∃H',YOK E n0 (n - 1) l Φ (ev E s1.sl x) s1.hp H'/\a1p E all.toArray post (Q .normal) ⟨put (some d) (.bool true) s1.sl,H'⟩) s) :
  b1a E N n0 Φ (.region id all.toArray false) Q s:=by
 intro m0 w0 hn hφ m w a he hs
 refine wpIn_wide (n:=n).1 (wpIn_region_lit ?_)
 subst hall
 have hd':=hd
 simp only [a2l,List.all_append,List.all_cons,Bool.and_eq_true] at hd'
 refine a3H n _ pre _ s m0 w0 m w a hd'.1 he hs h ?_
 rintro m1 w1 s1 a1 he1 hs1 ⟨hw,hf,H',hy,hpost⟩
 unfold wpListIn
 rw [a3B hs1 hw]
 simp only [if_true]
 have hff:=a5w hs1 f
 rw [hf] at hff
 simp only [Env.Rel,Abs.Rel] at hff
 obtain ⟨us,vs,h1,h2,h3⟩:=hff
 rw [a1l] at h2 h3
 subst h2 h3
 obtain ⟨fn,tmps,asz,bd,hy1,hy2⟩:=hy m0 w0 hn hφ m1 w1 (a1.eval x) he1 hs1.ok hs1.glob (a5w hs1 x) hs1.sim
 have hrun:(execOp a1.eval ⟨some d,.call ⟨.value f,#[x],tys⟩,ty,pos,after,g⟩).run E.P w1=.ok (.round l fn tmps asz bd) w1:=by
  have e:(execOp a1.eval ⟨some d,.call ⟨.value f,#[x],tys⟩,ty,pos,after,g⟩).run E.P w1=(Instr.yield l #[a1.eval x]).run E.P w1:=by
   simp only [execOp,resolve,h1,Deferred.ofValue,Sem.run_bind,Sem.run_pure,Result.andThen_ok,invoke]
   simp
  rw [e,hy1]
 refine ⟨fun _ _=>trivial,?_⟩
 rw [show Fence.wide.round=none from rfl,Oper.semAt_none,hrun]
 refine ⟨fun hh=>(by cases hh),hy2.mono ?_⟩
 rintro e W' ⟨rfl,m2,he2,hs2⟩
 have hdN:∀k,some d=some k->k<N:=fun k hk=>by
  have:=hd'.2.1;cases hk;simpa using this
 have hput:=hs1.put he2 (d:=some d) hdN (r:=.bool true) (v:=.bool true) (by simp [Abs.Rel]) hs2
 have hfin:=a3H (Q':=b8C E N m0 w0 Q) n [] post (Q .normal) _ m0 w0 m2 W' _ hd'.2.2 (he1.trans he2) hput hpost (fun m' w' s' a' h1 h2 h3=>⟨m',s',h1,h2,h3⟩)
 rw [List.append_nil] at hfin
 exact hfin
end Go.Abs
namespace Go.Abs
def Env.wL(E:Env)(l:Nat):Env:=E.wX fun b=>E.X b\/b=l
section
variable{E:Env}{l:Nat}{m:Mu}{w w1:World}
theorem b5E:Cmp (b9j m.length) E.cx (E.wL l).cx (m++[.blk l]) m where
 szs:=rfl
 id:=fun i j h hi=>by
  unfold b9j at h
  split at h
  ·rename_i hl
   cases h
   exact ⟨hl,fun x _ h=>by rwa [List.getElem?_append_left hl]⟩
  ·cases h
 sub:=fun b h=>by
  rcases h with h|h|h
  ·exact .inl (List.mem_append.2 (.inl h))
  ·exact .inr h
  ·subst h;exact .inl (List.mem_append.2 (.inr (by simp)))
theorem b5F:Cmp some (E.wL l).cx E.cx m m where
 szs:=rfl
 id:=fun i j h hi=>by cases h;exact ⟨hi,fun x _ h=>h⟩
 sub:=fun b h=>by
  rcases h with h|h
  ·exact .inl h
  ·exact .inr (.inl h)
structure b8B(l:Nat)(w w1:World):Prop where
 os:w1.os=w.os
 tape:w1.tape=w.tape
 output:w1.output=w.output
 size:w.heap.size<=w1.heap.size
 keep:∀b,b<w.heap.size->w1.heap[b]?=w.heap[b]?
 new:w.heap.size<=l/\l<w1.heap.size
theorem b8B.ext(g:b8B l w w1):Ext m w (m++[.blk l]) w1 where
 os:=g.os
 tape:=g.tape
 output:=g.output
 size:=g.size
 keep:=fun b hb _=>g.keep b hb
 fresh:=fun b hb hm=>by
  rcases List.mem_append.1 hm with h|h
  ·exact h
  have:b=l:=by simpa using h
  have:=g.new.1
  omega
 len:=by simp
 ids:=fun i x hi _ h=>by rwa [List.getElem?_append_left hi] at h
 shape:=fun b s hs=>by
  have hlt:b<w.heap.size:=by
   unfold World.shape? at hs
   rcases Nat.lt_or_ge b w.heap.size with h1|h1
   ·exact h1
   ·rw [Array.getElem?_eq_none h1] at hs;cases hs
  unfold World.shape? at hs ⊢
  rw [g.keep b hlt];exact hs
theorem b8B.ext0(g:b8B l w w1):Ext m w m w1 where
 os:=g.os
 tape:=g.tape
 output:=g.output
 size:=g.size
 keep:=fun b hb _=>g.keep b hb
 fresh:=fun _ _ h=>h
 len:=Nat.le_refl _
 ids:=fun _ _ _ _ h=>h
 shape:=(g.ext (m:=m)).shape
theorem Rel.newX(g:b8B l w w1){x:AV}{v:Value}(h:E.Rel m w x v):(E.wL l).Rel m w1 x v :=
 Rel.cmp b5E (n:=m.length) (fun i hi=>if_pos hi) x (Rel.ids x h) (h.ext g.ext)
theorem Rel.oldX{x:AV}{v:Value}(h:(E.wL l).Rel m w x v):E.Rel m w x v:=Rel.cmp_all b5F h
theorem OB.newX(g:b8B l w w1){o:AO}{x:MS}(ho:OB E.cx m w o x):OB (E.wL l).cx m w1 o x:=by
 have h2:OB E.cx (m++[.blk l]) w1 o x:=ho.ext g.ext fun b hb=>by
  subst hb
  exact g.keep b ho.lt
 exact OB.cmp b5E (n:=m.length) (fun i hi=>if_pos hi) (OB.ids ho) h2
theorem Sim.newX(g:b8B l w w1){H:Hp}(hs:E.Sim m w H):(E.wL l).Sim m w1 H where
 len:=hs.len
 live:=fun id o ho=>by
  obtain ⟨x,h1,h2⟩:=hs.live id o ho
  exact ⟨x,h1,OB.newX g h2⟩
 dead:=hs.dead
 inj:=hs.inj
 xlt:=fun b hb=>by
  rcases hb with hb|hb
  ·exact Nat.lt_of_lt_of_le (hs.xlt b hb) g.size
  ·subst hb;exact g.new.2
 disj:=fun b hb hx=>by
  rcases hx with hx|hx
  ·exact hs.disj b hb hx
  subst hx
  have:=hs.lt hb
  have:=g.new.1
  omega
theorem Sim.oldX{H:Hp}(hs:(E.wL l).Sim m w H):E.Sim m w H where
 len:=hs.len
 live:=fun id o ho=>by
  obtain ⟨x,h1,h2⟩:=hs.live id o ho
  exact ⟨x,h1,OB.cmp b5F (n:=m.length) (fun _ _=>rfl) (OB.ids h2) h2⟩
 dead:=hs.dead
 inj:=hs.inj
 xlt:=fun b hb=>hs.xlt b (.inl hb)
 disj:=fun b hb hx=>hs.disj b hb (.inl hx)
end
end Go.Abs
namespace Go.Abs
end Go.Abs
namespace Go.Abs
end Go.Abs
open Go.MapKept
namespace Go.Abs
end Go.Abs
namespace Go.Abs
end Go.Abs
namespace Go.Abs
end Go.Abs
namespace Go.Abs
section
variable{E:Env}{N:Nat}{H:Hp}{K:AV->Hp->Prop}{ρ:Operand->AV}
theorem c2x{a:Act}{d:Option Tmp}{v v':Value}{ds:List Deferred}(h:({ tmps:=a.tmps,defers:=ds }:Act).put d v=({ tmps:=a.tmps,defers:=ds }:Act).put d v'):a.put d v=a.put d v':=by
 cases d with
 | none=>rfl
 | some k =>
  have h2:a.tmps.setIfInBounds k v=a.tmps.setIfInBounds k v':=congrArg Act.tmps h
  show ({ tmps:=a.tmps.setIfInBounds k v,defers:=a.defers }:Act)={ tmps:=a.tmps.setIfInBounds k v',defers:=a.defers }
  rw [h2]
theorem c1n{o:Oper}(h:a0z E o ρ H K){m:Mu}{w:World}{a:Act}(hok:E.Ok)(hr:∀x,E.Rel m w (ρ x) (a.eval x))(hsim:E.Sim m w H){nx:Act->World->Prop}{Q:Exit->Act->World->Prop}
  (hnx:∀v' m' r H' w',Ext m w m' w'->E.Rel m' w' r v'->E.Sim m' w' H'->K r H'->nx (a.put o.dst v') w'):o.wp E.P a w nx Q:=by
 have h0:=h m w { tmps:=a.tmps,defers:=[] } hok hr hsim rfl (fun _ _ _=>False)
 unfold Oper.wp at *
 have ev:({ tmps:=a.tmps,defers:=[] }:Act).eval=a.eval:=by funext x;cases x<;>rfl
 rw [ev] at h0
 generalize (execOp a.eval o).run E.P w=r at *
 have key:∀v w',(∃v',({ tmps:=a.tmps,defers:=[] }:Act).put o.dst v=({ tmps:=a.tmps,defers:=[] }:Act).put o.dst v'/\∃m' r H',Ext m w m' w'/\E.Rel m' w' r v'/\E.Sim m' w' H'/\K r H')->nx (a.put o.dst v) w':=by
  rintro v w' ⟨v',e,m',r,H',h1,h2,h3,h4⟩
  rw [c2x e]
  exact hnx v' m' r H' w' h1 h2 h3 h4
 cases r with
 | ok n w' =>
  cases n with
  | value v=>exact key v w' h0
  | skip=>exact key undef w' h0
  | defer d =>
   simp only [Oper.upon] at h0
   obtain ⟨v',e,_⟩:=h0
   cases hd:o.dst with
   | none=>rw [hd] at e;simp [Act.put] at e
   | some k=>rw [hd] at e;simp [Act.put] at e
  | enter f args =>
   simp only [Oper.upon] at h0 ⊢
   refine h0.mono fun e w'' he=>?_
   cases e with
   | returned v=>exact key v w'' he
   | panicked ch=>exact he.elim
   | outgrown=>obtain ⟨x,y,z⟩:=he;exact z.elim
  | row r args =>
   simp only [Oper.upon] at h0 ⊢
   exact h0.mono fun v w'' he=>key v w'' he
  | _=>exact h0
 | halt hh w'=>cases hh<;>exact absurd h0 (by simp [Oper.upon])
theorem b7e{a:Act}{d:Option Tmp}{v:Value}:({ tmps:=(a.put d v).tmps,defers:=[] }:Act)=({ tmps:=a.tmps,defers:=[] }:Act).put d v:=by
 cases d<;>rfl
theorem a9W{ops:Array Oper}{K:St->Prop}{Q':Exit->Act->World->Prop}(rest:List Oper):∀(l:List Oper) (s:St) (m0:Mu) (w0:World) (m:Mu) (w:World) (a:Act),a2l N l=true ->
  Ext m0 w0 m w->a2k E N m w s { tmps:=a.tmps,defers:=[] }->a1p E ops l K s ->
  (∀m' w' s' a',Ext m0 w0 m' w'->a2k E N m' w' s' { tmps:=a'.tmps,defers:=[] }->a'.defers=a.defers->K s'->wpList E.P ops Q' rest a' w') ->
  wpList E.P ops Q' (l++rest) a w
 | [],s,m0,w0,m,w,a,_,he,hs,h,hQ=>by
  obtain ⟨sl',h1,h2⟩:=h
  have hs':a2k E N m w ⟨sl',s.hp⟩ { tmps:=a.tmps,defers:=[] }:=⟨hs.ok,fun k=>(h1 k) ▸ hs.slots k,hs.size,hs.defers,hs.sim,hs.glob⟩
  exact hQ m w _ a he hs' rfl h2
 | o::l,s,m0,w0,m,w,a,hd,he,hs,h,hQ=>by
  simp only [a2l,List.all_cons,Bool.and_eq_true] at hd
  have hd1:∀k,o.dst=some k->k<N:=fun k hk=>by
   have:=hd.1;rw [hk] at this;simpa using this
  simp only [a1p] at h
  show wpList E.P ops Q' (o::(l++rest)) a w
  unfold wpList
  have ev2:∀x,E.Rel m w (ev E s.sl x) (a.eval x):=fun x=>by
   have:=a5w hs x
   cases x<;>exact this
  cases hw:a0H ops o s.sl with
  | none=>rw [hw] at h;exact h.elim
  | some b =>
   rw [hw] at h
   have hw2:=a3B hs hw
   have hw3:Region.wanted o (yielded ops a.tmps)=b:=hw2
   rw [hw3]
   cases b with
   | true =>
    simp only [if_true]
    left
    refine c1n h hs.ok ev2 hs.sim ?_
    intro v' m' r H' w' h1 h2 h3 h4
    refine a9W rest l _ m0 w0 m' w' _ hd.2 (he.trans h1) (by rw [b7e];exact hs.put h1 hd1 h2 h3) h4 ?_
    intro m2 w2 s2 a2 e1 e2 e3 e4
    refine hQ m2 w2 s2 a2 e1 e2 (e3.trans ?_) e4
    cases o.dst<;>rfl
   | false =>
    simp only [Bool.false_eq_true,if_false]
    refine a9W rest l _ m0 w0 m w _ hd.2 he (by rw [b7e];exact hs.put (Ext.refl m w) hd1 a3y hs.sim) h ?_
    intro m2 w2 s2 a2 e1 e2 e3 e4
    refine hQ m2 w2 s2 a2 e1 e2 (e3.trans ?_) e4
    cases o.dst<;>rfl
end
end Go.Abs
namespace Go.Abs
def b1h(E:Env)(N lo:Nat)(m:Mu)(w:World)(s:St)(a:Act):Prop :=
 ∃D,a2k (E.wL D) N m w s { tmps:=a.tmps,defers:=[] }/\lo<=D/\a.defers=[{ target:=.collected D,args:=#[] }]/\w.heap[D]?=some (.deferred (some []))
def b8D(E:Env)(N:Nat)(m0:Mu)(w0:World)(Q:Exit->St->Prop):Exit->Act->World->Prop :=
 fun e a' w'=>∃m' s',Ext m0 w0 m' w'/\b1h E N w0.heap.size m' w' s' a'/\Q e s'
def a7p(E:Env)(N n0:Nat)(c:Code)(Q:Exit->St->Prop)(s:St):Prop :=
 ∀m0 w0,m0.length=n0->∀m w a,Ext m0 w0 m w->b1h E N w0.heap.size m w s a->c.wp E.P (b8D E N m0 w0 Q) a w
def c0u(E:Env)(N n0:Nat)(s s':St):Prop:=∀m0 w0,m0.length=n0->∀m w a,Ext m0 w0 m w->b1h E N w0.heap.size m w s a->∃m',Ext m0 w0 m' w/\b1h E N w0.heap.size m' w s' a
section
variable{E:Env}{N n0:Nat}{Q:Exit->St->Prop}{s:St}
theorem a3q{s':St}(h:∀D,Imp (E.wL D) N n0 s s'):c0u E N n0 s s':=fun m0 w0 hn m w a he ⟨D,h1,hlo,h2,h3⟩=>by
 obtain ⟨m',h4,h5⟩:=h D m0 w0 hn m w _ he h1
 exact ⟨m',h4,D,h5,hlo,h2,h3⟩
theorem a8P{c:Code}{s':St}(i:c0u E N n0 s s')(h:a7p E N n0 c Q s'):a7p E N n0 c Q s :=
 fun m0 w0 hn m w a he hs=>let ⟨m',h1,h2⟩:=i m0 w0 hn m w a he hs;h m0 w0 hn m' w a h1 h2
theorem c1w{lo:Nat}{m:Mu}{w:World}{a:Act}(h:b1h E N lo m w s a)(x:Operand):∃D,(E.wL D).Rel m w (ev E s.sl x) (a.eval x):=by
 obtain ⟨D,h1,_,_,_⟩:=h
 refine ⟨D,?_⟩
 have:=a5w h1 x
 cases x<;>exact this
theorem a5o{c:Operand}{x y:Code}{b:Bool}(hc:ev E s.sl c=.bool b)(h1:b=true->a7p E N n0 x Q s)(h2:b=false->a7p E N n0 y Q s) :
  a7p E N n0 (.cond c x y) Q s:=by
 intro m0 w0 hn m w a he hs
 obtain ⟨D,hr⟩:=c1w hs c
 rw [hc] at hr
 simp only [Env.Rel,Abs.Rel] at hr
 exact wp_cond_split hr (fun h=>h1 h m0 w0 hn m w a he hs) (fun h=>h2 h m0 w0 hn m w a he hs)
theorem a1i{id:Nat}{l:List Oper}(hd:a2l N l=true)(h:∀D,a1p (E.wL D) l.toArray l (Q .normal) s):a7p E N n0 (.region id l.toArray false) Q s:=by
 intro m0 w0 hn m w a he ⟨D,h1,hlo,h2,h3⟩
 have hDl:D<w.heap.size:=(Array.getElem?_eq_some_iff.1 h3).1
 have hDm:MS.blk D ∉ m:=fun hm=>h1.sim.disj D hm (.inr rfl)
 refine wp_region_lit ?_
 have h4:=a9W (E:=E.wL D) (Q':=b8D E N m0 w0 Q) (ops:=l.toArray) [] l s m w m w a hd (Ext.refl m w) h1 (h D) (fun m' w' s' a' g1 g2 g3 g4 =>
  ⟨m',s',he.trans g1,⟨D,g2,hlo,g3.trans h2,(g1.keep D hDl hDm).trans h3⟩,g4⟩)
 rw [List.append_nil] at h4
 exact h4
theorem b5n{c:Code}{Q':Exit->St->Prop}(h:a7p E N n0 c Q s)(k:∀e s,Q e s->Q' e s):a7p E N n0 c Q' s :=
 fun m0 w0 hn m w a he hs=>wp_mono (h m0 w0 hn m w a he hs) fun _ _ _ ⟨m',s',h1,h2,h3⟩=>⟨m',s',h1,h2,k _ _ h3⟩
theorem a1D{x y:Code}(h:a7p E N n0 x (a5W (a7p E N n0 y Q) Q) s):a7p E N n0 (.seq x y) Q s:=by
 intro m0 w0 hn m w a he hs
 refine wp_seq (wp_mono (h m0 w0 hn m w a he hs) ?_)
 rintro e a' w' ⟨m',s',h1,h2,h3⟩
 cases e with
 | normal=>exact h3 m0 w0 hn m' w' a' h1 h2
 | _=>exact ⟨m',s',h1,h2,h3⟩
theorem a5p(h:Q .normal s):a7p E N n0 .skip Q s:=fun _ _ _ m _ _ he hs=>wp_skip ⟨m,s,he,hs,h⟩
theorem b8G(h:Q .ret s):a7p E N n0 .ret Q s:=fun _ _ _ m _ _ he hs=>wp_ret ⟨m,s,he,hs,h⟩
theorem b0b{id:Nat}(h:Q (.exit id) s):a7p E N n0 (.exit id) Q s:=fun _ _ _ m _ _ he hs=>wp_exit ⟨m,s,he,hs,h⟩
theorem a4z{id:Nat}{c:Code}(h:a7p E N n0 c (a4M id Q) s):a7p E N n0 (.block id c) Q s:=by
 intro m0 w0 hn m w a he hs
 refine wp_block (wp_mono (h m0 w0 hn m w a he hs) ?_)
 rintro e a' w' ⟨m',s',h1,h2,h3⟩
 cases e with
 | exit i =>
  simp only [a4M] at h3
  simp only [Exit.inBlock]
  split
  ·rename_i hi;rw [if_pos hi] at h3;exact ⟨m',s',h1,h2,h3⟩
  ·rename_i hi;rw [if_neg hi] at h3;exact ⟨m',s',h1,h2,h3⟩
 | _=>exact ⟨m',s',h1,h2,h3⟩
theorem b0c{ι:Type}(σ:ι->St)(μ:ι->Nat)(i0:ι){c:Code}(h0:c0u E N n0 s (σ i0))
  (round:∀i,a7p E N n0 c (a5W (fun s'=>∃j,μ j < μ i/\c0u E N n0 s' (σ j)) Q) (σ i)):a7p E N n0 (.loop c) Q s:=by
 intro m0 w0 hn m w a he hs
 obtain ⟨m',h1,h2⟩:=h0 m0 w0 hn m w a he hs
 intro b k cs
 have key:∀n i m w a,μ i=n->Ext m0 w0 m w->b1h E N w0.heap.size m w (σ i) a ->
   ∃e a' w',b8D E N m0 w0 Q e a' w'/\Arrives E.P (lone (b.at a (.code c::.inLoop c::k)) cs w) b k cs e a' w':=by
  intro n
  induction n using Nat.strongRecOn with
  | _ n ih =>
   intro i m w a hi he hs
   obtain ⟨e,a',w',⟨m',s',h1,h2,h3⟩,harr⟩:=round i m0 w0 hn m w a he hs b (.inLoop c::k) cs
   cases e with
   | normal =>
    obtain ⟨j,hj,hi'⟩:=h3
    obtain ⟨m2,h4,h5⟩:=hi' m0 w0 hn m' w' a' h1 h2
    obtain ⟨e2,a2,w2,hq2,harr2⟩:=ih (μ j) (hi ▸ hj) j m2 w' a' rfl h4 h5
    exact ⟨e2,a2,w2,hq2,.of_steps (Steps.trans harr (.one step_inLoop)) harr2⟩
   | exit id=>exact ⟨_,a',w',⟨m',s',h1,h2,h3⟩,.pass (x:=.inLoop c) rfl (fun _ _=>.inl (by simp)) harr⟩
   | goto l=>exact ⟨_,a',w',⟨m',s',h1,h2,h3⟩,.pass (x:=.inLoop c) rfl (fun _ _=>.inl (by simp)) harr⟩
   | ret=>exact ⟨_,a',w',⟨m',s',h1,h2,h3⟩,.pass (x:=.inLoop c) rfl (fun _ _=>.inl (by simp)) harr⟩
   | panic ch=>exact ⟨_,a',w',⟨m',s',h1,h2,h3⟩,.pass (x:=.inLoop c) rfl (fun _ _=>.inl (by simp)) harr⟩
   | outgrown=>exact ⟨_,a',w',⟨m',s',h1,h2,h3⟩,.pass (x:=.inLoop c) rfl (fun _ _=>.inl (by simp)) harr⟩
 obtain ⟨e,a',w',hq,harr⟩:=key _ i0 m' w a rfl h1 h2
 exact ⟨e,a',w',hq,.of_steps (.one step_loop) harr⟩
end
end Go.Abs
namespace Go.Abs
theorem b3a(w:World)(o:Obj):b8B w.heap.size w (w.alloc o):=by
 have hsz:(w.alloc o).heap.size=w.heap.size+1:=by
  show (w.heap.push o).size=_
  simp
 refine ⟨rfl,rfl,rfl,by omega,fun b hb=>?_,by omega,by omega⟩
 show (w.heap.push o)[b]?=_
 rw [Array.getElem?_push,if_neg (by omega)]
theorem b8m(w:World)(o1 o2:Obj):((w.alloc o1).alloc o2).heap[w.heap.size]?=some o1/\((w.alloc o1).alloc o2).heap[w.heap.size+1]?=some o2:=by
 constructor
 ·show ((w.heap.push o1).push o2)[w.heap.size]?=_
  rw [Array.getElem?_push,if_neg (by simp),Array.getElem?_push,if_pos rfl]
 ·show ((w.heap.push o1).push o2)[w.heap.size+1]?=_
  rw [Array.getElem?_push,if_pos (by simp)]
theorem a2k.newX{E:Env}{N l:Nat}{m:Mu}{w w1:World}{s:St}{a:Act}(g:b8B l w w1)(hs:a2k E N m w s a):a2k (E.wL l) N m w1 s a :=
 ⟨hs.ok,fun k=>Rel.newX g (hs.slots k),hs.size,hs.defers,Sim.newX g hs.sim,fun k=>Rel.newX g (hs.glob k)⟩
theorem a2k.oldX{E:Env}{N l:Nat}{m:Mu}{w:World}{s:St}{a:Act}(hs:a2k (E.wL l) N m w s a):a2k E N m w s a :=
 ⟨hs.ok,fun k=>Rel.oldX (hs.slots k),hs.size,hs.defers,Sim.oldX hs.sim,fun k=>Rel.oldX (hs.glob k)⟩
theorem a2k.heap{E:Env}{N:Nat}{m m':Mu}{w w':World}{s:St}{a:Act}{H':Hp}(hs:a2k E N m w s a)(he:Ext m w m' w')(h:E.Sim m' w' H'):a2k E N m' w' ⟨s.sl,H'⟩ a :=
 ⟨hs.ok,fun k=>(hs.slots k).ext he,hs.size,hs.defers,h,fun k=>(hs.glob k).ext he⟩
theorem c0q{E:Env}{N:Nat}{g:Operand}{p:Nat}{asz bd:Code}{gf:FuncId}{cap:List AV}{s:St}{m:Mu}{w:World}{a:Act}{H':Hp}{Qk:Exit->Act->World->Prop}(hs:a2k E N m w s a)(hg:ev E s.sl g=.clo (.func gf) [] cap)(hc:b2x E gf)
  (hit:∀(l D:Nat) (rc:Loop) (w1:World) (cv:List Value),rc.state=.ready->rc.pending=none->rc.params=#[p]->rc.assign=asz->rc.body=bd->w1.heap[l]?=some (.loop rc) ->
   a2k ((E.wL D).wL l) N m w1 s { tmps:=rc.tmps,defers:=[] }->((E.wL D).wL l).RelL m w1 cap cv ->
   Calls E.P gf (.func (.yield l) #[] #[]::cv).toArray w1 fun e W'=>∃v m',e=.returned v/\Ext m w1 m' W'/\((E.wL D).wL l).Sim m' W' H')
  (hk:∀m' w' a',Ext m w m' w'->b1h E N w.heap.size m' w' ⟨s.sl,H'⟩ a'->Qk .normal a' w'):(Code.rangeFunc g #[p] asz bd).wp E.P Qk a w:=by
 refine wpIn_wide (n:=1).1 (wpIn_rangeFunc ?_)
 intro fn _
 have hgr:=a5w hs g
 rw [hg] at hgr
 simp only [Env.Rel,Abs.Rel] at hgr
 obtain ⟨us,cv,h1,h2,h3⟩:=hgr
 rw [a1l] at h2
 subst h2
 obtain ⟨rc,hrc⟩:∃rc:Loop,rc={ state:=.ready,pending:=none,fn,tmps:=a.tmps,params:=#[p],assign:=asz,body:=bd,defers:=w.heap.size }:=⟨_,rfl⟩
 obtain ⟨w1,hw1⟩:∃w1,w1=(w.alloc (.deferred (some []))).alloc (.loop rc):=⟨_,rfl⟩
 have hD:=(b8m w (.deferred (some [])) (.loop rc)).1
 have hL:=(b8m w (.deferred (some [])) (.loop rc)).2
 rw [<- hw1] at hD hL
 have gA:=b3a w (.deferred (some []))
 have gB:=b3a (w.alloc (.deferred (some []))) (.loop rc)
 have hsA:(w.alloc (.deferred (some []))).heap.size=w.heap.size+1:=by
  show (w.heap.push _).size=_
  simp
 rw [hsA,<- hw1] at gB
 have hdf:a.defers=[]:=hs.defers
 have haa:({ tmps:=a.tmps,defers:=[] }:Act)=a:=by cases a;simp only at hdf;rw [hdf]
 have hs1:a2k ((E.wL w.heap.size).wL (w.heap.size+1)) N m w1 s { tmps:=rc.tmps,defers:=[] }:=by
  have:rc.tmps=a.tmps:=by rw [hrc]
  rw [this,haa]
  exact (hs.newX gA).newX gB
 have hcap:((E.wL w.heap.size).wL (w.heap.size+1)).RelL m w1 cap cv:=by
  have key:∀(xs:List AV) {vs:List Value},E.RelL m w xs vs->((E.wL w.heap.size).wL (w.heap.size+1)).RelL m w1 xs vs:=fun xs=>by
   induction xs with
   | nil =>
    intro vs h
    have h':vs=[]:=a1l.1 h
    exact a1l.2 h'
   | cons x xs ih =>
    intro vs h
    obtain ⟨u,r,rfl,h4,h5⟩:=a0o.1 h
    exact a0o.2 ⟨u,r,rfl,Rel.newX gB (Rel.newX gA h4),ih h5⟩
  exact key cap h3
 have hcl:=hit (w.heap.size+1) w.heap.size rc w1 cv (by rw [hrc]) (by rw [hrc]) (by rw [hrc]) (by rw [hrc]) (by rw [hrc]) hL hs1 hcap
 obtain ⟨fd,hfd,hbody,hname⟩:=hc
 refine ⟨w.heap.size+1,[{ target:=.collected w.heap.size,args:=#[] }],w1,{ target:=.fn (.func gf) cv.toArray,args:=#[.func (.yield (w.heap.size+1)) #[] #[]] },w1,gf,(.func (.yield (w.heap.size+1)) #[] #[]::cv).toArray,w1,?_,?_,fun _ _=>trivial,?_,fun hh=>(by cases hh),?_⟩
 ·rw [hw1,hrc];exact run_enterLoop_outer _ _ _ _ _
 ·simp [resolve,rangeCall,h1,Deferred.ofValue,Sem.run_bind]
  rfl
 ·simp only [invoke,callFunc,Sem.run_bind,run_program,Result.andThen_ok,hfd,hname,hbody,Bool.false_eq_true,if_false]
  simp
 refine callsIn_wide.2 (hcl.mono ?_)
 rintro e W' ⟨v,m',rfl,he,hsim⟩
 have hlm:MS.blk (w.heap.size+1) ∉ m:=fun h=>hs1.sim.disj _ h (.inr rfl)
 have hDm:MS.blk w.heap.size ∉ m:=fun h=>hs1.sim.disj _ h (.inl (.inr rfl))
 have hsz1:w1.heap.size=w.heap.size+2:=by
  rw [hw1]
  show ((w.heap.push _).push _).size=_
  simp
 have hL':W'.heap[w.heap.size+1]?=some (.loop rc):=(he.keep _ (by omega) hlm).trans hL
 have hD':W'.heap[w.heap.size]?=some (.deferred (some [])):=(he.keep _ (by omega) hDm).trans hD
 have hend:=run_endLoop (P:=E.P) hL' (by rw [hrc];simp)
 have hpn:rc.pending=none:=by rw [hrc]
 rw [hpn] at hend
 have hch:=b1o (.loop { rc with state:=.exhausted }) hL'
 refine ⟨none,_,hend,?_⟩
 have hsF:=(a2k.chg (E:=(E.wL w.heap.size).wL (w.heap.size+1)) (Or.inr rfl) hch (hs1.heap he hsim)).oldX
 refine hk m' _ _ ?_ ⟨w.heap.size,?_,Nat.le_refl _,by rw [hdf];rfl,(World.putObj_heap_other (by omega)).trans hD'⟩
 ·have he0:Ext m w m w1:=gA.ext0.trans gB.ext0
  exact {
   os:=he.os.trans he0.os
   tape:=he.tape.trans he0.tape
   output:=he.output.trans he0.output
   size:=by
    rw [World.putObj_size]
    exact Nat.le_trans he0.size he.size
   keep:=fun b hb hn=>by
    rw [World.putObj_heap_other (by omega),he.keep b (by omega) hn]
    exact he0.keep b hb hn
   fresh:=fun b hb hm=>he.fresh b (by omega) hm
   len:=he.len
   ids:=he.ids
   shape:=fun b q hq=>by
    have h5:=he.shape b q (he0.shape b q hq)
    have hbl:b≠w.heap.size+1:=by
     rintro rfl
     unfold World.shape? at h5
     rw [hL'] at h5;cases h5
    unfold World.shape? at h5 ⊢
    rw [World.putObj_heap_other hbl];exact h5 }
 have:rc.tmps=a.tmps:=by rw [hrc]
 rw [this,hpn] at hsF
 rw [this]
 exact hsF
end Go.Abs
namespace Go.Abs
def b4X(E:Env)(N n0:Nat)(c:Code)(Q QD:Exit->St->Prop)(s:St):Prop :=
 ∀m0 w0,m0.length=n0->∀m w a,Ext m0 w0 m w->a2k E N m w s a->c.wp E.P (fun e a' w'=>b8C E N m0 w0 Q e a' w'\/b8D E N m0 w0 QD e a' w') a w
section
variable{E:Env}{N n0:Nat}{Q QD:Exit->St->Prop}{s:St}
theorem a3I{c:Code}(h:AWp E N n0 c Q s):b4X E N n0 c Q QD s:=fun m0 w0 hn m w a he hs=>wp_mono (h m0 w0 hn m w a he hs) fun _ _ _ h=>.inl h
theorem a6Y{c:Code}{s':St}(i:Imp E N n0 s s')(h:b4X E N n0 c Q QD s'):b4X E N n0 c Q QD s :=
 fun m0 w0 hn m w a he hs=>let ⟨m',h1,h2⟩:=i m0 w0 hn m w a he hs;h m0 w0 hn m' w a h1 h2
theorem a2u{x y:Code}(h:b4X E N n0 x (a5W (b4X E N n0 y Q QD) Q) (a5W (a7p E N n0 y QD) QD) s):b4X E N n0 (.seq x y) Q QD s:=by
 intro m0 w0 hn m w a he hs
 refine wp_seq (wp_mono (h m0 w0 hn m w a he hs) ?_)
 rintro e a' w' (⟨m',s',h1,h2,h3⟩|⟨m',s',h1,h2,h3⟩)
 ·cases e with
  | normal=>exact h3 m0 w0 hn m' w' a' h1 h2
  | _=>exact .inl ⟨m',s',h1,h2,h3⟩
 cases e with
 | normal=>exact wp_mono (h3 m0 w0 hn m' w' a' h1 h2) fun _ _ _ h=>.inr h
 | _=>exact .inr ⟨m',s',h1,h2,h3⟩
theorem b4e{id:Nat}{c:Code}(h:b4X E N n0 c (a4M id Q) (a4M id QD) s):b4X E N n0 (.block id c) Q QD s:=by
 intro m0 w0 hn m w a he hs
 refine wp_block (wp_mono (h m0 w0 hn m w a he hs) ?_)
 rintro e a' w' (⟨m',s',h1,h2,h3⟩|⟨m',s',h1,h2,h3⟩)
 ·cases e with
  | exit i =>
   simp only [a4M] at h3
   simp only [Exit.inBlock]
   split
   ·rename_i hi;rw [if_pos hi] at h3;exact .inl ⟨m',s',h1,h2,h3⟩
   ·rename_i hi;rw [if_neg hi] at h3;exact .inl ⟨m',s',h1,h2,h3⟩
  | _=>exact .inl ⟨m',s',h1,h2,h3⟩
 cases e with
 | exit i =>
  simp only [a4M] at h3
  simp only [Exit.inBlock]
  split
  ·rename_i hi;rw [if_pos hi] at h3;exact .inr ⟨m',s',h1,h2,h3⟩
  ·rename_i hi;rw [if_neg hi] at h3;exact .inr ⟨m',s',h1,h2,h3⟩
 | _=>exact .inr ⟨m',s',h1,h2,h3⟩
theorem b4f{g:Operand}{p:Nat}{asz bd c:Code}{gf:FuncId}{gn:Func}{cap:List AV}{H':Hp}(hg:ev E s.sl g=.clo (.func gf) [] cap)(hp:Nat.blt p N=true)
  (hf:E.P.funcs[gf]?=some gn) (hb:gn.body=some c) (hname:(gn.name == "runtime.NumGoroutine")=false) (hl:Nat.ble (cap.length+1) gn.ntmps=true)
  (hit:∀(D l:Nat) (Φ:Mu->World->Prop),(∀(n0:Nat) (x:AV) (H1 H2:Hp),b8u ((E.wL D).wL l) N l 1 asz (b8u ((E.wL D).wL l) N l 1 bd (fun s=>s.hp=H2)) ⟨put (some p) x s.sl,H1⟩->YOK ((E.wL D).wL l) n0 1 l Φ x H1 H2) ->
   HOk s.hp.length s.hp->(∀x∈cap,a0d s.hp.length x)->b1a ((E.wL D).wL l) gn.ntmps s.hp.length Φ c (b1g ((E.wL D).wL l) gn.results.toList (fun _ H2=>H2=H')) ⟨slots 0 (.clo (.yield l) [] []::cap),s.hp⟩)
  (hk:QD .normal ⟨s.sl,H'⟩):b4X E N n0 (.rangeFunc g #[p] asz bd) Q QD s:=by
 intro m0 w0 hn m w a he hs
 refine c0q (H':=H') hs hg ⟨gn,hf,by rw [hb];rfl,hname⟩ ?_ (fun m' w' a' he' ⟨D,g1,g2,g3⟩=>.inr ⟨m',_,he.trans he',⟨D,g1,Nat.le_trans he.size g2,g3⟩,hk⟩)
 intro l D rc w1 cv h1 h2 h3 h4 h5 h6 h7 h8
 have hh:=hit D l (fun m0 w0=>w0.heap[l]?=some (.loop rc)/\a2k ((E.wL D).wL l) N m0 w0 s { tmps:=rc.tmps,defers:=[] }) ?_
 ·refine (b5w (E:=(E.wL D).wL l) (N:=gn.ntmps) (args:=.clo (.yield l) [] []::cap) hf hb rfl hname hl (fun hhk hids=>hh hhk (fun x hx=>hids x (List.mem_cons_of_mem _ hx))) m w1 (.func (.yield l) #[] #[]::cv) h7.ok h7.glob ⟨h6,h7⟩ ?_ h7.sim).mono ?_
  ·exact a0o.2 ⟨_,_,rfl,by simp [Abs.Rel,Abs.RelL],h8⟩
  ·rintro e W' ⟨v,m',r,H2,rfl,he2,_,hs2,rfl⟩
   exact ⟨v,m',rfl,he2,hs2⟩
 rintro n1 x H1 H2 hround m1 w2 hn1 ⟨hL,hs1⟩ m2 w3 v he1 hok hgl hx hsim
 have hnm:=b1N (Or.inr rfl) hs1
 have hL2:w3.heap[l]?=some (.loop rc):=(he1.keep l (Array.getElem?_eq_some_iff.1 hL).1 hnm).trans hL
 obtain ⟨fn,tmps,as2,bd2,hy1,hy2⟩:=c0t (n:=1) (sl:=s.sl) (H:=H1) (H':=H2) (Or.inr rfl) hL2 h1 h2 h3 (Nat.le_of_ble_eq_true hp) (hs1.heap he1 hsim) hx (by rw [h4,h5];exact hround)
 refine ⟨fn,tmps,as2,bd2,hy1,hy2.mono ?_⟩
 rintro e W' ⟨rfl,m3,he3,hs3,_⟩
 exact ⟨rfl,m3,he3,hs3⟩
end
theorem b0e{E:Env}{N n0 n:Nat}{Φ:Mu->World->Prop}{Q:Exit->St->Prop}{s:St}{id l:Nat}(k:Nat){d:Nat}{f x:Operand}{tys:Array TypeId}{ty:TypeId}{pos:String}{after:Array Edge}{g:Option (Nat × Bool)}{all:List Oper}
  (hk:all[k]?=some ⟨some d,.call ⟨.value f,#[x],tys⟩,ty,pos,after,g⟩) (hd:a2l N all=true)
  (h:a1p E all.toArray (all.take k) (fun s1=>a0H all.toArray ⟨some d,.call ⟨.value f,#[x],tys⟩,ty,pos,after,g⟩ s1.sl=some true/\ev E s1.sl f=.clo (.yield l) [] [] /\
   ∃H',YOK E n0 (n - 1) l Φ (ev E s1.sl x) s1.hp H'/\a1p E all.toArray (all.drop (k+1)) (Q .normal) ⟨put (some d) (.bool true) s1.sl,H'⟩) s) :
  b1a E N n0 Φ (.region id all.toArray false) Q s:=by
 refine b1k (n:=n) (pre:=all.take k) (post:=all.drop (k+1)) ?_ hd h
 obtain ⟨hlt,he⟩:=List.getElem?_eq_some_iff.1 hk
 rw [<- he,List.getElem_cons_drop,List.take_append_drop]
theorem b7q(E:Env)(D:Nat)(s:St):∀rs:List ResultVar,b4J (E.wL D) s rs=b4J E s rs
 | []=>rfl
 | r::rs=>by
  simp only [b4J,b7q E D s rs]
  cases r<;>rfl
theorem b4c{E:Env}{N:Nat}{H:Hp}{f:FuncId}{fn:Func}{c:Code}{args:List AV}{R:AV → Hp → Prop}(hf:E.P.funcs[f]?=some fn)(hb:fn.body=some c)(hn:fn.ntmps=N)(hname:(fn.name == "runtime.NumGoroutine")=false)(hl:Nat.ble args.length N=true)
  (h:HOk H.length H->(∀x∈args,a0d H.length x)->b4X E N H.length c (b1g E fn.results.toList R) (b1g E fn.results.toList R) ⟨slots 0 args,H⟩):a0b E f args H R:=by
 refine ⟨⟨fn,hf,by rw [hb];rfl,hname⟩,fun m w vs hok hglob hargs hsim=>?_⟩
 have hvl:=hargs.length
 have hle:args.length<=N:=Nat.le_of_ble_eq_true hl
 have hids:∀x∈args,a0d H.length x:=fun x hx=>by
  obtain ⟨i,hi,he⟩:=List.getElem_of_mem hx
  obtain ⟨u,_,hu⟩:=hargs.get i (x:=x) (by rw [List.getElem?_eq_getElem hi,he])
  rw [<- hsim.len];exact Rel.ids x hu
 refine callsIn_wide (n:=1).1 (callsIn_of_wp_marks hf hb trivial ?_ rfl)
 have hs0:a2k E N m w ⟨slots 0 args,H⟩ { tmps:=vs.toArray++Array.replicate (fn.ntmps - vs.toArray.size) undef,defers:=[] }:=by
  refine ⟨hok,fun k=>?_,?_,rfl,hsim,hglob⟩
  ·show Abs.Rel E.cx m w (get (slots 0 args) k) _
   rw [a5C]
   simp only [Nat.zero_le,if_true,Nat.sub_zero]
   cases hk:args[k]? with
   | none=>simp [Abs.Rel]
   | some x =>
    obtain ⟨u,h1,h2⟩:=hargs.get k hk
    have hlt:k<vs.length:=(List.getElem?_eq_some_iff.1 h1).1
    have:(vs.toArray++Array.replicate (fn.ntmps - vs.toArray.size) undef).getD k undef=u:=by
     rw [Array.getD_eq_getD_getElem?,Array.getElem?_append_left (by simpa using hlt)]
     simp [h1]
    show Abs.Rel E.cx m w x ((vs.toArray++Array.replicate (fn.ntmps - vs.toArray.size) undef).getD k undef)
    rw [this]
    exact h2
  ·simp;omega
 refine wpIn_wide (n:=1).2 (wp_mono (h hsim.hok hids m w hsim.len m w _ (Ext.refl m w) hs0) ?_)
 have fin:∀(E':Env) (a':Act) (m':Mu) (w':World) (s':St),E'.P=E.P->a2k E' N m' w' s' a'->(∀x v,E'.Rel m' w' x v->E.Rel m' w' x v)->E.Sim m' w' s'.hp->Ext m w m' w'->(∃xs,b4J E' s' fn.results.toList=some xs/\R (one xs) s'.hp) ->
   ∃v,(results fn a'.tmps).run E.P w'=.ok v w'/\∃v2 m' r H',Ending.returned v=.returned v2/\Ext m w m' w'/\E.Rel m' w' r v2/\E.Sim m' w' H'/\R r H':=by
  rintro E' a' m' w' s' hP h2 hold hsim' h1 ⟨xs,h4,h5⟩
  obtain ⟨us,h6,h7'⟩:=a3Q h2 fn.results.toList h4
  rw [hP] at h6
  have h7:Abs.RelL E'.cx m' w' xs us:=h7'
  refine ⟨if h:us.toArray.size=1 then us.toArray[0] else .tuple us.toArray,?_,_,m',one xs,s'.hp,rfl,h1,hold _ _ ?_,hsim',h5⟩
  ·rw [a6v,Array.mapM_eq_mapM_toList]
   simp only [Sem.run_bind,Sem.run_map,h6,Result.andThen_ok,Sem.run_pure]
  have hul:=h7.length
  cases xs with
  | nil =>
   rw [a1l] at h7;subst h7
   show Abs.Rel E'.cx m' w' (.tup []) (.tuple #[])
   simp [Abs.Rel,Abs.RelL]
  | cons x xs =>
   cases xs with
   | nil =>
    rw [a0o] at h7
    obtain ⟨u,r,rfl,h8,h9⟩:=h7
    rw [a1l] at h9;subst h9
    simpa [one] using h8
   | cons y ys =>
    have hne:¬ us.toArray.size=1:=by simp [hul]
    rw [dif_neg hne]
    show Abs.Rel _ _ _ _ _
    simp only [one,Abs.Rel]
    exact ⟨us,rfl,h7⟩
 rintro e a' w' (⟨m',s',h1,h2,h3⟩|⟨m',s',h1,⟨D,h2,hlo,hdf,hD⟩,h3⟩)
 ·have key:(∃xs,b4J E s' fn.results.toList=some xs/\R (one xs) s'.hp)->LeavesInM Fence.wide 1 E.P fn a'.tmps (fun e w'=>∃v m' r H',e=.returned v/\Ext m w m' w'/\E.Rel m' w' r v/\E.Sim m' w' H'/\R r H') a'.defers .returning w':=fun hr=>by
   have hdf:a'.defers=[]:=h2.defers
   rw [hdf]
   exact fin E a' m' w' s' rfl h2 (fun _ _ h=>h) h2.sim h1 hr
  cases e with
  | normal=>exact key h3
  | ret=>exact key h3
  | _=>exact h3.elim
 have key:(∃xs,b4J E s' fn.results.toList=some xs/\R (one xs) s'.hp)->LeavesInM Fence.wide 1 E.P fn a'.tmps (fun e w'=>∃v m' r H',e=.returned v/\Ext m w m' w'/\E.Rel m' w' r v/\E.Sim m' w' H'/\R r H') a'.defers .returning w':=fun hr=>by
  rw [hdf]
  refine ⟨by simp,.inl ⟨_,_,rfl,run_takeDeferred hD,?_⟩⟩
  have hDl:D<w'.heap.size:=(Array.getElem?_eq_some_iff.1 hD).1
  have hch:Chg D w' (w'.putObj D (.deferred none)):=⟨rfl,rfl,rfl,by rw [World.putObj_size];exact Nat.le_refl _,fun b _ hb=>World.putObj_heap_other hb,by unfold World.shape?;rw [hD]⟩
  have h2':=a2k.chg (E:=E.wL D) (Or.inr rfl) hch h2
  refine fin (E.wL D) { tmps:=a'.tmps,defers:=[] } m' _ s' rfl h2' (fun _ _ h=>Rel.oldX h) (Sim.oldX h2'.sim) ?_ (by rw [b7q];exact hr)
  exact {
   os:=h1.os
   tape:=h1.tape
   output:=h1.output
   size:=by rw [World.putObj_size];exact h1.size
   keep:=fun b hb hn=>by
    by_cases hbD:b=D
    ·omega
    ·rw [World.putObj_heap_other hbD];exact h1.keep b hb hn
   fresh:=h1.fresh
   len:=h1.len
   ids:=h1.ids
   shape:=fun b q hq=>by
    have h5:=h1.shape b q hq
    have hbl:b≠D:=by
     rintro rfl
     unfold World.shape? at h5
     rw [hD] at h5;cases h5
    unfold World.shape? at h5 ⊢
    rw [World.putObj_heap_other hbl];exact h5 }
 cases e with
 | normal=>exact key h3
 | ret=>exact key h3
 | _=>exact h3.elim
end Go.Abs
namespace Go.Abs
attribute [local irreducible] a0z a1p AWp Nx awM
def b6v(tail:Int)(out:List Rg)(r:Rg):List Rg:=if (decide (tail<=r.h.seq)&&!(out.any (a8u r)))=true then out++[r] else out
def a7M(tail:Int)(s:List Rg):List Rg:=s.foldl (b6v tail) []
theorem b6u{tail:Int}{s:List Rg}{i:Nat}{r:Rg}(h:s[i]?=some r):a7M tail (s.take (i+1))=b6v tail (a7M tail (s.take i)) r:=by
 obtain ⟨hi,rfl⟩:=List.getElem?_eq_some_iff.1 h
 unfold a7M
 rw [List.take_succ_eq_append_getElem hi,List.foldl_append];rfl
theorem b9r(tail:Int)(out:List Rg)(r:Rg):(b6v tail out r).length<=out.length+1:=by
 unfold b6v;split<;>simp
theorem b3k(tail:Int)(s:List Rg):(a7M tail s).length<=s.length:=by
 have:∀(s out:List Rg),(s.foldl (b6v tail) out).length<=out.length+s.length:=fun s=>by
  induction s with
  | nil=>intro out;simp
  | cons r s ih=>intro out;have:=ih (b6v tail out r);have:=b9r tail out r;simp only [List.foldl_cons,List.length_cons];omega
 have:=this s []
 simpa [a7M] using this
end Go.Abs
