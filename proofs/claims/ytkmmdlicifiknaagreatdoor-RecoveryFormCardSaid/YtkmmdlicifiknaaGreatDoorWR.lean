/- The reference's Load. Joined texts, each with what its own name promises; no condition beyond those stated. -/
import Derived.Test.YtkmmdlicifiknaaGreatDoorWC
import Derived.Test.YtkmmdlicifiknaaGreatDoorWQ
import Derived.Test.YtkmmdlicifiknaaGreatDoorWE
import Derived.Test.YtkmmdlicifiknaaGreatDoorWN
import Derived.Test.YtkmmdlicifiknaaGreatDoorWG
import Derived.Test.YtkmmdlicifiknaaGreatDoorWP
import Derived.Test.YtkmmdlicifiknaaGreatDoorWF
set_option maxHeartbeats 0
set_option maxRecDepth 100000
set_option linter.all false
namespace Go.Abs
theorem a9T{L:Nat}{v:Dv}(hv:Lv L v):a2R v=if v.image.length<128 then none else a2H v.image 2:=by
 unfold a2R
 rw [a4S hv.inv,a4S hv.inv,hv.dead]
 have h64:=hv.inv.load.1
 simp only [Bool.false_eq_true,if_false]
 by_cases h:v.image.length<128
 ·rw [if_pos h,if_neg]
  rintro ⟨h1,h2⟩
  rw [if_pos (by omega)] at h2
  cases h2
 ·rw [if_neg h,if_pos]
  exact ⟨by rw [if_neg (by omega)],by rw [if_neg (by omega)]⟩
theorem c0x{l:La}(h:a1f l=true):l.ver=1\/l.ver=2:=by
 unfold a1f at h
 simp only [Bool.and_eq_true,Bool.or_eq_true,decide_eq_true_eq] at h
 exact h.2.2.1
attribute [local irreducible] a0B a1G AWp Nx awM
theorem a2T:HOk 0 []:=fun j o ho=>by cases ho
theorem d0C{X:Nat->Prop}{x:AV}(h:b0F (E0 X) 3 24 [x]):∃l:List La,x=.sl 4 (l.map laA)/\l.length<=maxLen:=by
 have h1:∃es,[x]=[.sl 4 es]/\es.length<=maxLen/\∀y∈es,∃ys,y=elA true ys/\c8C (E0 X) (b0F (E0 X) 1) [(0,3),(1,3),(2,3),(3,3)] ys:=h
 obtain ⟨es,h2,hlen,h3⟩:=h1
 simp only [List.cons.injEq,and_true] at h2
 subst h2
 obtain ⟨l,rfl⟩:=b7k (f:=laA) fun y hy=>by
  obtain ⟨ys,rfl,_,_,rfl,⟨m0,rfl,_⟩,_,_,rfl,⟨m1,rfl,_⟩,_,_,rfl,⟨m2,rfl,_⟩,_,_,rfl,⟨m3,rfl,_⟩,rfl⟩:=h3 y hy
  exact ⟨⟨m0,m1,m2,m3⟩,rfl⟩
 exact ⟨l,rfl,by simpa using hlen⟩
theorem d0t{X:Nat->Prop}{xs:List AV}(h:b0F (E0 X) 4 26 xs):∃s:Sb,xs=sbL s/\s.fo.length<=maxLen:=by
 have h1:c8C (E0 X) (b0F (E0 X) 3) [(0,3),(1,3),(2,3),(3,3),(4,3),(5,23),(9,23),(13,24)] xs:=h
 obtain ⟨_,_,rfl,⟨n0,rfl,_⟩,_,_,rfl,⟨n1,rfl,_⟩,_,_,rfl,⟨n2,rfl,_⟩,_,_,rfl,⟨n3,rfl,_⟩,_,_,rfl,⟨n4,rfl,_⟩,a,_,rfl,ha,b,_,rfl,hb,c,_,rfl,hc,rfl⟩:=h1
 have ha2:c8C (E0 X) (b0F (E0 X) 2) [(0,3),(1,3),(2,3),(3,3)] a:=ha
 have hb2:c8C (E0 X) (b0F (E0 X) 2) [(0,3),(1,3),(2,3),(3,3)] b:=hb
 obtain ⟨_,_,rfl,⟨m0,rfl,_⟩,_,_,rfl,⟨m1,rfl,_⟩,_,_,rfl,⟨m2,rfl,_⟩,_,_,rfl,⟨m3,rfl,_⟩,rfl⟩:=ha2
 obtain ⟨_,_,rfl,⟨k0,rfl,_⟩,_,_,rfl,⟨k1,rfl,_⟩,_,_,rfl,⟨k2,rfl,_⟩,_,_,rfl,⟨k3,rfl,_⟩,rfl⟩:=hb2
 have hc1:∃es,c=[.sl 4 es]/\es.length<=maxLen/\∀y∈es,∃ys,y=elA true ys/\b0F (E0 X) 2 23 ys:=hc
 obtain ⟨es,rfl,_⟩:=hc1
 obtain ⟨l,h2,h3⟩:=d0C hc
 rw [h2]
 exact ⟨⟨n0,n1,n2,n3,n4,⟨m0,m1,m2,m3⟩,⟨k0,k1,k2,k3⟩,l⟩,rfl,h3⟩
def Sb.short(s:Sb):Sb:={ s with fo:=s.fo.take 4 }
theorem b8M(X:Nat->Prop)(s:Sb):a0b (E0 X) 29 [sbA s] [] (fun r H'=>r=sbA s.short/\H'=[]):=by
 refine a0b.cut0 ?_ a1P
 have e1:s.fo.take (min s.fo.length 4)=s.fo.take 4:=by
  rcases Nat.le_total s.fo.length 4 with h|h
  ·rw [Nat.min_eq_left h,List.take_of_length_le (Nat.le_refl _),List.take_of_length_le h]
  ·rw [Nat.min_eq_right h]
 show a0b (E0 X) 29 [.agg [.int .i64 s.gen,.int .i64 s.phase,.int .i64 s.mig,.int .i64 s.tail,.int .i64 s.now,.int .i64 s.t.id,.int .i64 s.t.ver,.int .i64 s.t.rs,.int .i64 s.t.regs,.int .i64 s.h.id,.int .i64 s.h.ver,.int .i64 s.h.rs,.int .i64 s.h.regs,.sl 4 (s.fo.map laA)]] [] _
 refine Z0 Proofs.Tryz.func29 rfl Proofs.Tryz.ntmps29 (by kernel_rfl) rfl ?_
 repeat' (first|refine Zs rfl ?_|refine Zc rfl ?_|refine Qa rfl ?_)
 refine a1m (l:=0) (h:=min s.fo.length 4) (ys:=s.fo.take 4) (a1t) (a0r rfl (by rw [List.length_map];omega)) (by omega) (by omega) (by rw [List.drop_zero,e1]) rfl rfl rfl rfl rfl ?_
 refine nx rfl rfl ?_
 repeat' (first|refine Zs rfl ?_|refine Zc rfl ?_|refine Zh ?_|refine Qs ?_)
 exact a0c ⟨_,rfl,rfl⟩
structure Pt where
 kind:Int
 lay:Int
 h:Hd
 rs:List Rec
 p:Pl
 s:Sb
 pos:Int
 add:UInt8
def plL(p:Pl):List AV:=[.int .i64 p.kind,.int .i64 p.mig,.int .i64 p.idx,.int .i64 p.tail,.int .i64 p.t.id,.int .i64 p.t.ver,.int .i64 p.t.rs,.int .i64 p.t.regs]
def ptL(p:Pt):List AV:=.int .i64 p.kind::.int .i64 p.lay::(hdL p.h++.sl 4 (p.rs.map a6Z)::(plL p.p++(sbL p.s++[.int .i64 p.pos,u8A p.add])))
def ptA(p:Pt):AV:=.agg (ptL p)
theorem b7Q{n:Nat}{p:Pt}:a0e n (ptL p):=⟨trivial,trivial,trivial,trivial,trivial,trivial,trivial,trivial,a0h fun _=>a2F,trivial,trivial,trivial,trivial,trivial,trivial,trivial,trivial,trivial,trivial,trivial,trivial,trivial,trivial,trivial,trivial,trivial,trivial,trivial,trivial,trivial,a0h fun _=>a1u,trivial,trivial,trivial⟩
@[simp] theorem c4A{n:Nat}{p:Pt}:a0g n (ptA p):=b7Q
theorem c2L(l:List Pt){n:Nat}:a0e n (l.map ptA):=a0h fun _=>c4A
structure c8Y(p:Pt):Prop where
 rs:p.rs.length<=maxLen
 key:∀r∈p.rs,r.key.length<=maxLen/\r.val.length<=maxLen
theorem d0x{X:Nat->Prop}{x:AV}(h:b0F (E0 X) 6 27 [x]):∃l:List Pt,x=.sl 33 (l.map ptA)/\l.length<=maxLen/\∀p∈l,c8Y p:=by
 have h1:∃es,[x]=[.sl 33 es]/\es.length<=maxLen/\∀y∈es,∃ys,y=elA true ys/\c8C (E0 X) (b0F (E0 X) 4) [(0,3),(1,3),(2,61),(8,87),(9,89),(17,26),(31,3),(32,5)] ys:=h
 obtain ⟨es,h2,hlen,h3⟩:=h1
 simp only [List.cons.injEq,and_true] at h2
 subst h2
 obtain ⟨l,rfl,hl⟩:=d0s (f:=ptA) (P:=c8Y) fun y hy=>by
  obtain ⟨ys,rfl,_,_,rfl,⟨k,rfl,_⟩,_,_,rfl,⟨la,rfl,_⟩,a,_,rfl,ha,b,_,rfl,hb,c,_,rfl,hc,d,_,rfl,hd,_,_,rfl,⟨at0,rfl,_⟩,e,_,rfl,he,rfl⟩:=h3 y hy
  have ha1:c8C (E0 X) (b0F (E0 X) 3) [(0,3),(1,3),(2,3),(3,3),(4,3),(5,3)] a:=ha
  obtain ⟨_,_,rfl,⟨h0,rfl,_⟩,_,_,rfl,⟨h1,rfl,_⟩,_,_,rfl,⟨h2,rfl,_⟩,_,_,rfl,⟨h3,rfl,_⟩,_,_,rfl,⟨h4,rfl,_⟩,_,_,rfl,⟨h5,rfl,_⟩,rfl⟩:=ha1
  obtain ⟨rs,rfl,hr1,hr2⟩:=d0B hb
  have hc1:c8C (E0 X) (b0F (E0 X) 3) [(0,3),(1,3),(2,3),(3,3),(4,23)] c:=hc
  obtain ⟨_,_,rfl,⟨p0,rfl,_⟩,_,_,rfl,⟨p1,rfl,_⟩,_,_,rfl,⟨p2,rfl,_⟩,_,_,rfl,⟨p3,rfl,_⟩,pt,_,rfl,hpt,rfl⟩:=hc1
  have hpt1:c8C (E0 X) (b0F (E0 X) 2) [(0,3),(1,3),(2,3),(3,3)] pt:=hpt
  obtain ⟨_,_,rfl,⟨t0,rfl,_⟩,_,_,rfl,⟨t1,rfl,_⟩,_,_,rfl,⟨t2,rfl,_⟩,_,_,rfl,⟨t3,rfl,_⟩,rfl⟩:=hpt1
  obtain ⟨s,rfl,_⟩:=d0t hd
  obtain ⟨u,rfl⟩:=d0w (X:=X) he
  exact ⟨⟨k,la,⟨h0,h1,h2,h3,h4,h5⟩,rs,⟨p0,p1,p2,p3,⟨t0,t1,t2,t3⟩⟩,s,at0,u⟩,rfl,hr1,hr2⟩
 exact ⟨l,rfl,by simpa using hlen,hl⟩
def c0J(l:La)(h:Hd):Int:=if a1f l=true/\hdB h=true/\h.ver=l.ver/\h.lay=l.id then (if l.regs<=h.slot then 2 else 0) else 4
def ptH(l:La)(p:Pt):Hd:={ p.h with ver:=l.ver,lay:=l.id }
def c5N(l:La)(h:Hd):Nat:=(74+h.slot*l.rs).toNat
def c8L(r:Rd)(l:La)(h:Hd):Rd:=(r.wr (c5N l h) (a5L h (c5N l h))).bar
def b5D(l:La)(F seq:Nat)(x:Rd × List UInt8 × Nat)(r:Rec):Rd × List UInt8 × Nat :=
 if a3U l.ver r=0/\(x.2.1.length:Int)+(a1K r:Int)<=(l.rs - 1)*59 then
  (a7C x.1 F seq (x.2.1++a2d l.ver seq x.2.1.length r) x.2.2 ((x.2.1++a2d l.ver seq x.2.1.length r).length / 59 - x.2.2),x.2.1++a2d l.ver seq x.2.1.length r,(x.2.1++a2d l.ver seq x.2.1.length r).length / 59)
 else x
def b9E(F seq:Nat)(x:Rd × List UInt8 × Nat):Rd:=(a7C x.1 F seq (padS x.2.1) x.2.2 ((padS x.2.1).length / 59 - x.2.2)).bar
def b2h(r:Rd)(l:La)(h:Hd)(rs:List Rec):Rd:=b9E (c5N l h) h.seq.toNat (rs.foldl (b5D l (c5N l h) h.seq.toNat) (c8L r l h,[],0))
def b5N(s:Sb)(L:Nat)(p:Pt)(r r':Rd):Prop :=
 Lr L r'/\(p.kind=0->∃l∈a1n s,r'=if c0J l (ptH l p)=0 then b2h r l (ptH l p) ((p.rs.take 5).map Rec.short) else r)
def a5h(s:Sb)(L:Nat):List Pt->Rd->Rd->Prop
 | [],r,r'=>r'=r
 | p::ps,r,r'=>∃r1,b5N s L p r r1/\a5h s L ps r1 r'
theorem a5h.snoc{s:Sb}{L:Nat}{p:Pt}{r1 r2:Rd}(h2:b5N s L p r1 r2):∀{l:List Pt} {r0:Rd},a5h s L l r0 r1->a5h s L (l++[p]) r0 r2
 | [],r0,h=>by
  have h':r1=r0:=h
  subst h'
  exact ⟨r2,h2,rfl⟩
 | q::l,r0,⟨r3,h3,h4⟩=>⟨r3,h3,a5h.snoc h2 h4⟩
structure WJ(L:Nat)(l:La)(p:Rd × List UInt8 × Nat):Prop where
 lr:Lr L p.1
 tt:p.2.2=p.2.1.length / 59
 cap:(p.2.1.length:Int)<=(l.rs - 1)*59
def szN(l:List La):Int:=l.foldl (fun a l=>max a (74+l.regs*l.rs)) 74
theorem c1S(l:List La)(x:La):szN (l++[x])=max (szN l) (74+x.regs*x.rs):=by simp [szN]
theorem c2X:∀(l:List La) (a:Int),a<=l.foldl (fun a l=>max a (74+l.regs*l.rs)) a
 | [],a=>Int.le_refl a
 | x::l,a=>Int.le_trans (Int.le_max_left a _) (c2X l _)
theorem b3c{x:La}:∀{l:List La} {a:Int},x∈l->74+x.regs*x.rs<=l.foldl (fun a l=>max a (74+l.regs*l.rs)) a
 | y::l,a,h=>by
  rcases List.mem_cons.1 h with rfl|h
  ·exact Int.le_trans (Int.le_max_right a _) (c2X l _)
  ·exact b3c (l:=l) h
theorem c2Y{n:Int}:∀{l:List La} {a:Int},a<=n->(∀x∈l,74+x.regs*x.rs<=n)->l.foldl (fun a l=>max a (74+l.regs*l.rs)) a<=n
 | [],a,h,_=>h
 | x::l,a,h,hx=>c2Y (l:=l) (Int.max_le.2 ⟨h,hx x (by simp)⟩) fun y hy=>hx y (by simp [hy])
def a9E(s:Sb):Rd:=(Rd.fresh (List.replicate ((szN (a1n s)).toNat*64) 0)).wr (s.gen%2).toNat (encS s (s.gen%2).toNat)
structure c8g(s:Sb)(ps:List Pt)(img:List UInt8):Prop where
 ok:sbB s.short=true
 fit:∀l∈a1n s.short,l.rs<=8/\l.regs<=8
 len:img.length=(szN (a1n s.short)).toNat*64
 ex:∃r,a5h s.short ((szN (a1n s.short)).toNat*64) (ps.take 12) (a9E s.short) r/\img=r.new
theorem c9r{a b:Int}(h0:0<=a)(h1:a<=8)(h2:0<=b)(h3:b<=8):0<=a*b/\a*b<=64:=by
 have h4:=Int.mul_le_mul h1 h3 h2 (by omega:(0:Int)<=8)
 exact ⟨Int.mul_nonneg h0 h2,h4⟩
theorem c1R{s:Sb}(hs:sbB s=true)(hf:∀l∈a1n s,l.rs<=8/\l.regs<=8):82<=szN (a1n s)/\szN (a1n s)<=138/\∀l∈a1n s,74+l.regs*l.rs<=szN (a1n s):=by
 have h1:=(a9f hs).1
 have hm:∀l∈a1n s,8<=l.regs*l.rs/\l.regs*l.rs<=64:=fun l hl=>by
  have h2:=a1M (h1 l hl)
  have h3:=hf l hl
  have h4:=Int.mul_le_mul h2.2.2.1 h2.1 (by omega) (by omega)
  have h5:=(c9r (a:=l.regs) (b:=l.rs) (by omega) (by omega) (by omega) (by omega)).2
  exact ⟨h4,h5⟩
 have h6:s.t∈a1n s:=by simp [a1n]
 have h7:74+s.t.regs*s.t.rs<=szN (a1n s):=b3c h6
 exact ⟨by have:=hm _ h6;omega,c2Y (by omega) fun l hl=>by have:=hm l hl;omega,fun l hl=>b3c hl⟩
theorem c7q(l:La)(h:Hd):∀X,Pur (E0 X) 34 [laA l,hdA h] (.int .i64 (c0J l h)):=by
 refine Zj ⟨a1u,a4C,trivial⟩ trivial fun X=>?_
 have hc:=b8g l X
 have hd:Pur (E0 X) 88 [hdA h] (.bool (hdB h)):=⟨⟨a4C,trivial⟩,fun Y=>b1o Y h⟩
 unfold c0J
 generalize a1f l=f at *
 generalize hdB h=g at *
 refine Z0 Proofs.Tryz.func34 rfl Proofs.Tryz.ntmps34 (by kernel_rfl) rfl ?_
 repeat' (first|refine Zs rfl ?_|refine Zc rfl ?_)
 refine Zp rfl rfl (hc) rfl ?_
 cases f with
 | false =>
  rw [if_neg (by simp)]
  repeat' (first|refine Zs rfl ?_|refine Zc rfl ?_)
  refine a0c ⟨_,rfl,rfl⟩
 | true =>
  repeat' (refine Zs rfl ?_)
  refine Zp rfl rfl (hd) rfl ?_
  cases g with
  | false =>
   rw [if_neg (by simp)]
   repeat' (first|refine Zs rfl ?_|refine Zc rfl ?_)
   refine a0c ⟨_,rfl,rfl⟩
  | true =>
   repeat' (refine Zs rfl ?_)
   by_cases h1:h.ver=l.ver
   ·rw [decide_eq_false (fun h=>h h1:¬ h.ver≠l.ver)]
    repeat' (refine Zs rfl ?_)
    by_cases h2:h.lay=l.id
    ·rw [decide_eq_false (fun h=>h h2:¬ h.lay≠l.id),if_pos ⟨rfl,rfl,h1,h2⟩]
     repeat' (first|refine Zs rfl ?_|refine Zc rfl ?_)
     by_cases h3:l.regs<=h.slot
     ·rw [decide_eq_true h3,if_pos h3]
      repeat' (first|refine Zs rfl ?_|refine Zc rfl ?_)
      refine a0c ⟨_,rfl,rfl⟩
     rw [decide_eq_false h3,if_neg h3]
     repeat' (first|refine Zs rfl ?_|refine Zc rfl ?_)
     refine a0c ⟨_,rfl,rfl⟩
    rw [decide_eq_true (h2:h.lay≠l.id),if_neg (fun h=>h2 h.2.2.2)]
    repeat' (first|refine Zs rfl ?_|refine Zc rfl ?_)
    refine a0c ⟨_,rfl,rfl⟩
   rw [decide_eq_true (h1:h.ver≠l.ver),if_neg (fun h=>h1 h.2.2.1)]
   repeat' (first|refine Zs rfl ?_|refine Zc rfl ?_)
   refine a0c ⟨_,rfl,rfl⟩
theorem b6K{s:Sb}(h:sbB s=true):s.gen.tmod 2=((s.gen%2).toNat:Int)/\(s.gen%2).toNat<=1:=by
 have h1:1<=s.gen:=by
  unfold sbB at h
  rw [Bool.and_eq_true] at h
  exact of_decide_eq_true h.1
 rw [Int.tmod_eq_emod_of_nonneg (by omega)]
 omega
theorem WJ.app{L:Nat}{l:La}{d:Rd}{s:List UInt8}{t:Nat}(w:WJ L l (d,s,t)){F seq:Nat}{r:Rec}(hfl:(F+l.rs.toNat)*64<=L):WJ L l (b5D l F seq (d,s,t) r):=by
 unfold b5D
 split
 ·rename_i h
  have hl:(s.length:Int)+(a1K r:Int)<=(l.rs - 1)*59:=h.2
  have htt:t=s.length / 59:=w.tt
  refine ⟨w.lr.df _ ?_,rfl,?_⟩
  ·show (F+1+t+((s++a2d l.ver seq s.length r).length / 59 - t))*64<=L
   rw [List.length_append,a2E]
   omega
  ·show ((s++a2d l.ver seq s.length r).length:Int)<=_
   rw [List.length_append,a2E];omega
 ·exact w
theorem WJ.sync{L:Nat}{l:La}{d:Rd}{s:List UInt8}{t:Nat}(w:WJ L l (d,s,t)){F seq:Nat}(hfl:(F+l.rs.toNat)*64<=L):Lr L (b9E F seq (d,s,t)):=by
 have hc:=b2E (l:=l) (s:=s) w.cap
 have htt:t=s.length / 59:=w.tt
 have hps:s.length<=(padS s).length:=by simp [padS]
 refine (w.lr.df _ ?_).bar
 show (F+1+t+((padS s).length / 59 - t))*64<=L
 omega
theorem c4B{L:Nat}{r:Rd}(h:Lr L r){i:Nat}{x:UInt8}:Lr L { r with new:=r.new.set i x } :=
 ⟨by show (r.new.set i x).length=L;rw [List.length_set];exact h.new,h.old,h.dirt,h.has,h.gone,h.le⟩
end Go.Abs
