/- The laws' Written: what the reference writes. Joined texts, each with what its own name promises; no condition beyond those stated. -/
import Derived.Test.YtkmmdlicifiknaaGreatDoorCC
import Derived.Test.YtkmmdlicifiknaaGreatDoorCP
import Derived.Test.YtkmmdlicifiknaaGreatDoorCO
set_option maxHeartbeats 0
set_option maxRecDepth 100000
set_option linter.all false
namespace Go.Abs
theorem b1S{l:La}{s:List UInt8}(h:(s.length:Int)<=(l.rs - 1)*59):((padS s).length:Int)<=(l.rs - 1)*59:=by
 simp only [Go.Abs.padS,List.length_append,List.length_replicate]
 omega
theorem c4p(n:Int)(c:Nat)(hc:0<c)(h:c<=1000000):∃k:Nat,(IntKind.i64.wrap (n.tmod c+c)).tmod c=(k:Int)/\k<c:=by
 have h1:n.tmod c<c:=Int.tmod_lt_of_pos n (by omega)
 have h2:-(c:Int)<n.tmod c:=by
  have h0:=Int.tmod_lt_of_pos (-n) (b:=(c:Int)) (by omega)
  rw [Int.neg_tmod] at h0
  omega
 rw [a0r (by omega) (by omega),Int.tmod_eq_emod_of_nonneg (by omega)]
 have h4:=Int.emod_nonneg (n.tmod c+c) (show (c:Int)≠0 by omega)
 have h5:=Int.emod_lt_of_pos (n.tmod c+c) (show (0:Int)<c by omega)
 exact ⟨((n.tmod c+c)%c).toNat,by omega,by omega⟩
theorem c3B(a b:UInt8):AV.int .u8 (IntKind.u8.wrap ((a.toNat:Int)+(b.toNat:Int)))=u8A (a+b):=by
 have h:=a1s (a.toNat+b.toNat)
 rw [show ((a.toNat+b.toNat:Nat):Int)=(a.toNat:Int)+(b.toNat:Int) by omega] at h
 rw [h]
 congr 1
 apply UInt8.toNat_inj.1
 rw [UInt8.toNat_ofNat',UInt8.toNat_add]
 omega
attribute [local irreducible] a0z a1p AWp Nx awM
theorem b9M{ver:Int}{seq:Nat}{b:List UInt8}:∀(n off:Nat),∀p∈a4b ver seq b n off,a4i ver p.2=0:=by
 intro n
 induction n with
 | zero=>intro off p hp;simp [a4b] at hp
 | succ n ih =>
  intro off p hp
  rcases Nat.lt_or_ge off b.length with h|h
  ·rw [a5K n h] at hp
   split at hp
   ·exact ih _ p hp
   cases hd:a5v ver seq off (b.drop off) with
   | none=>rw [hd] at hp;simp at hp
   | some r =>
    rw [hd] at hp
    simp only [List.mem_cons] at hp
    rcases hp with rfl|hp
    ·exact (a6Z hd).2.1
    ·exact ih _ p hp
  ·rw [a5J _ h] at hp;simp at hp
theorem c3b{img:List UInt8}{s:Nat}(h:(a4H img (s:Int)).length=64):s*64+64<=img.length:=by
 unfold a4H at h
 split at h
 ·simp at h
 ·omega
theorem b3V(img:List UInt8)(seq:Nat):∀n s,(a4L img seq n s).length<=img.length - s*64
 | 0,_=>Nat.zero_le _
 | n+1,s=>by
  have e:a4L img seq (n+1) s=match a2A 2 seq s (a4H img (s:Int)) with
    | none=>[]
    | some p=>p++a4L img seq n (s+1):=rfl
  have h:=b3V img seq n (s+1)
  rw [e]
  cases hd:a2A 2 seq s (a4H img (s:Int)) with
  | none=>exact Nat.zero_le _
  | some p =>
   obtain ⟨h1,h2⟩:=a2e hd
   have h3:=c3b h2
   show (p++a4L img seq n (s+1)).length<=_
   rw [List.length_append]
   omega
theorem a9z{ver:Int}{seq:Nat}{b:List UInt8}:∀(n off:Nat),16*(a4b ver seq b n off).length<=b.length - off
 | 0,off=>by simp [a4b]
 | n+1,off=>by
  rcases Nat.lt_or_ge off b.length with h|h
  ·rw [a5K n h]
   split
   ·have h1:=a9z (ver:=ver) (seq:=seq) (b:=b) n ((off / 59+1)*59)
    have:off<=(off / 59+1)*59:=by omega
    omega
   cases hd:a5v ver seq off (b.drop off) with
   | none=>simp
   | some r =>
    have h1:=a9z (ver:=ver) (seq:=seq) (b:=b) n (off+a1M r)
    have h2:=(a6Z hd).1
    rw [List.length_drop] at h2
    have h3:16<=a1M r:=by unfold a1M;omega
    rw [List.length_cons]
    omega
  ·rw [a5J _ h];simp
def a5Y(img:List UInt8)(r:Rg):List (Nat × Rec):=recs r.l.ver r.h.seq.toNat (a4L img r.h.seq.toNat (r.l.rs.toNat - 1) ((74+r.h.slot*r.l.rs).toNat+1))
theorem a7i(img:List UInt8)(r:Rg):16*(a5Y img r).length<=img.length:=by
 unfold a5Y recs
 have h1:=a9z (ver:=r.l.ver) (seq:=r.h.seq.toNat) (b:=a4L img r.h.seq.toNat (r.l.rs.toNat - 1) ((74+r.h.slot*r.l.rs).toNat+1)) (a4L img r.h.seq.toNat (r.l.rs.toNat - 1) ((74+r.h.slot*r.l.rs).toNat+1)).length 0
 have h2:=b3V img r.h.seq.toNat (r.l.rs.toNat - 1) ((74+r.h.slot*r.l.rs).toNat+1)
 omega
theorem c2F{img:List UInt8}{r:Rg}{p:Nat × Rec}(h:p∈a5Y img r):a4i r.l.ver p.2=0:=b9M _ _ p h
theorem b9N{img:List UInt8}{r:Rg}{p:Nat × Rec}(h:p∈a5Y img r):p.2.key.length<=255:=(b0B (c2F h)).keyle
def a5q(img:List UInt8)(rs:List Rg):List (Int × List (Nat × Rec)):=rs.map fun r=>(r.h.seq,a5Y img r)
theorem c1p(img:List UInt8)(rs:List Rg):(flB (a5q img rs)).length*16<=rs.length*img.length:=by
 induction rs with
 | nil=>simp [a5q,flB]
 | cons r rs ih =>
  have h1:=a7i img r
  have e:(flB (a5q img (r::rs))).length=(a5Y img r).length+(flB (a5q img rs)).length:=by simp [a5q,flB]
  rw [e,List.length_cons,Nat.add_mul,Nat.add_mul]
  omega
def mxL(a:Int)(l:List Int):Int:=l.foldl max a
theorem a7c(a x:Int)(l:List Int):mxL a (x::l)=mxL (max a x) l:=rfl
theorem b6F:∀(l:List Int) (a b:Int),mxL (max a b) l=max a (mxL b l)
 | [],_,_=>rfl
 | x::l,a,b=>by rw [a7c,a7c,Int.max_assoc,b6F l a]
theorem a9q:∀(l m:List Int) (a:Int),mxL (mxL a l) m=mxL (mxL a m) l
 | [],_,_=>rfl
 | x::l,m,a=>by rw [a7c,a7c,a9q l m,Int.max_comm a x,b6F,Int.max_comm x]
theorem a5F{α:Type}{f:α->Int}{l:List α}{i:Nat}{x:α}(h:l[i]?=some x)(a:Int):mxL a ((l.take (i+1)).map f)=max (mxL a ((l.take i).map f)) (f x):=by
 obtain ⟨hi,rfl⟩:=List.getElem?_eq_some_iff.1 h
 unfold mxL
 rw [List.take_succ_eq_append_getElem hi,List.map_append,List.foldl_append];rfl
structure RSt where
 s:Sb
 rs:List Rg
 tail:Int
 next:Int
 now:Int
 plans:Int
 ps:List Pr
def rsL(x:RSt):List AV:=sbL x.s++[.sl 10 (x.rs.map rgA),.int .i64 x.tail,.int .i64 x.next,.int .i64 x.now,.int .i64 x.plans,.sl 6 (x.ps.map prA)]
def a9X:RSt:=⟨a4Q,[],0,0,0,0,[]⟩
def b8z(s:Sb)(pl:List Pl):List Pl:=if s.phase=1 then [] else pl
structure c6t(img:List UInt8)(pl:List Pl)(now:Int)(s:Sb)(x:RSt):Prop where
 sb:x.s=s
 plans:x.plans=((b8z s pl).length:Int)
 tail:x.tail=mxL (mxL s.tail ((b8z s pl).map (·.tail))) ((a3J (a2q img) (a0W s)).map (·.h.tail))
 now:x.now=mxL (max now s.now) ((a3J (a2q img) (a0W s)).map (·.h.now))
 next:x.next=max (mxL 1 ((a3J (a2q img) (a0W s)).map (fun r=>r.h.seq+1))) x.tail
 live:∃srt,b5j (a3J (a2q img) (a0W s)) srt/\x.rs=(a7M x.tail srt).reverse
 pairs:IsMap x.ps (b9q x.now (b4r (flB (a5q img x.rs))))
def zI:AV:=.int .i64 0
def zSb:List AV:=[zI,zI,zI,zI,zI,zI,zI,zI,zI,zI,zI,zI,zI,.nils]
def rsZ:List AV:=zSb++[.nils,zI,zI,zI,zI,.nils]
theorem b2f{n:Nat}:a0e n rsZ:=⟨trivial,trivial,trivial,trivial,trivial,trivial,trivial,trivial,trivial,trivial,trivial,trivial,trivial,trivial,trivial,trivial,trivial,trivial,trivial,trivial,trivial⟩
def stC(s:Sb)(a:AV)(tail next now plans:Int)(b:AV):List AV:=sbL s++[a,.int .i64 tail,.int .i64 next,.int .i64 now,.int .i64 plans,b]
theorem a5h{n:Nat}(s:Sb):a0e n (sbL s):=a1J (s:=s)
theorem a3s{n:Nat}{s:Sb}{a b:AV}{t x w p:Int}(ha:a0d n a)(hb:a0d n b):a0e n (stC s a t x w p b) :=
 ⟨trivial,trivial,trivial,trivial,trivial,trivial,trivial,trivial,trivial,trivial,trivial,trivial,trivial,a1w _,ha,trivial,trivial,trivial,trivial,hb,trivial⟩
def b4a(img:List UInt8)(o:Option Sb)(fit:Sb->Bool)(pl:Sb->List Pl)(now:Int)(x:RSt)(e:Int):Prop :=
 (e=0/\0<=now/\now<=549755813888/\∃s,o=some s/\fit s=true/\c6t img (pl s) now s x)\/(e=2/\x=a9X/\¬ (0<=now/\now<=549755813888)) \/
  (e=4/\x=a9X/\0<=now/\now<=549755813888/\∀s,o=some s->fit s=false)
theorem b7n{E:Env}{m:Mu}{w:World}{e:Int}{v:Value}(h:E.Rel m w (.tup [.agg rsZ,.int .i64 e]) v):E.Rel m w (.tup [.agg (rsL a9X),.int .i64 e]) v:=by
 refine a5N (fun v h=>?_) v h
 simp only [Env.Rel,Abs.Rel] at h ⊢
 obtain ⟨vs,rfl,h⟩:=h
 refine ⟨vs,rfl,?_⟩
 obtain ⟨v1,r1,rfl,a1,h⟩:=a0o.1 h
 obtain ⟨v2,r2,rfl,a2,h⟩:=a0o.1 h
 obtain ⟨v3,r3,rfl,a3,h⟩:=a0o.1 h
 obtain ⟨v4,r4,rfl,a4,h⟩:=a0o.1 h
 obtain ⟨v5,r5,rfl,a5,h⟩:=a0o.1 h
 obtain ⟨v6,r6,rfl,a6,h⟩:=a0o.1 h
 obtain ⟨v7,r7,rfl,a7,h⟩:=a0o.1 h
 obtain ⟨v8,r8,rfl,a8,h⟩:=a0o.1 h
 obtain ⟨v9,r9,rfl,a9,h⟩:=a0o.1 h
 obtain ⟨va,ra,rfl,aa,h⟩:=a0o.1 h
 obtain ⟨vb,rb,rfl,ab,h⟩:=a0o.1 h
 obtain ⟨vc,rc,rfl,ac,h⟩:=a0o.1 h
 obtain ⟨vd,rd,rfl,ad,h⟩:=a0o.1 h
 obtain ⟨ve,re,rfl,ae,h⟩:=a0o.1 h
 obtain ⟨vf,rf,rfl,af,h⟩:=a0o.1 h
 obtain ⟨w1,s1,rfl,b1,h⟩:=a0o.1 h
 obtain ⟨w2,s2,rfl,b2,h⟩:=a0o.1 h
 obtain ⟨w3,s3,rfl,b3,h⟩:=a0o.1 h
 obtain ⟨w4,s4,rfl,b4,h⟩:=a0o.1 h
 obtain ⟨w5,s5,rfl,b5,h⟩:=a0o.1 h
 exact a0o.2 ⟨_,_,rfl,a1,a0o.2 ⟨_,_,rfl,a2,a0o.2 ⟨_,_,rfl,a3,a0o.2 ⟨_,_,rfl,a4,a0o.2 ⟨_,_,rfl,a5,a0o.2 ⟨_,_,rfl,a6,a0o.2 ⟨_,_,rfl,a7,a0o.2 ⟨_,_,rfl,a8,a0o.2 ⟨_,_,rfl,a9,a0o.2 ⟨_,_,rfl,aa,
  a0o.2 ⟨_,_,rfl,ab,a0o.2 ⟨_,_,rfl,ac,a0o.2 ⟨_,_,rfl,ad,a0o.2 ⟨_,_,rfl,a2P 4 ae,a0o.2 ⟨_,_,rfl,a2P 10 af,a0o.2 ⟨_,_,rfl,b1,a0o.2 ⟨_,_,rfl,b2,a0o.2 ⟨_,_,rfl,b3,a0o.2 ⟨_,_,rfl,b4,a0o.2 ⟨_,_,rfl,a2P 6 b5,h⟩⟩⟩⟩⟩⟩⟩⟩⟩⟩⟩⟩⟩⟩⟩⟩⟩⟩⟩⟩
theorem c2t{o:Option Sb}{k:Nat}{b:List UInt8}{s:Sb}(h:a1Y o k b=some s)(ho:∀s,o=some s->sbB s=true):sbB s=true:=by
 unfold a1Y at h
 split at h
 ·exact ho _ h
 rename_i t ht
 split at h
 ·cases h;exact (a6f ht).1
 ·exact ho _ h
theorem b5s{img:List UInt8}:∀{n:Nat} {s:Sb},a2n img n=some s->sbB s=true
 | 0,_,h=>by cases h
 | n+1,s,h=>c2t h fun t ht=>b5s ht
theorem a5D{v:Dv}{s:Sb}(h:a2c v=some s):sbB s=true:=by
 unfold a2c at h
 split at h
 ·exact b5s h
 ·cases h
theorem b0F(v:Dv)(m:Int):∀(n i:Nat),(a5g v m i n).length<=n
 | 0,_=>Nat.zero_le _
 | n+1,i=>by
  have e:a5g v m i (n+1)=match a1F v m i with
    | none=>[]
    | some p=>p::a5g v m (i+1) n:=rfl
  have h:=b0F v m n (i+1)
  rw [e]
  cases a1F v m i with
  | none=>exact Nat.zero_le _
  | some p=>exact Nat.succ_le_succ h
theorem b3K(v:Dv)(m:Int):(a7k v m).length<=36:=b0F v m 36 0
theorem b9p{tail:Int}{s:List Rg}{r:Rg}:r∈a7M tail s->r∈s:=by
 have:∀(s out:List Rg),r∈s.foldl (b6v tail) out->r∈out\/r∈s:=fun s=>by
  induction s with
  | nil=>intro out h;exact .inl h
  | cons x s ih =>
   intro out h
   rcases ih _ h with h1|h1
   ·unfold b6v at h1
    split at h1
    ·rcases List.mem_append.1 h1 with h2|h2
     ·exact .inl h2
     ·rw [List.mem_singleton.1 h2];exact .inr (List.mem_cons_self ..)
    ·exact .inl h1
   ·exact .inr (List.mem_cons_of_mem _ h1)
 intro h
 rcases this s [] h with h1|h1
 ·cases h1
 ·exact h1
theorem a8p{X:Nat->Prop}{f:FuncId}{args:List AV}{ι:Type}{P:ι->Prop}{r0:ι->AV}(h:∀X,a0b (E0 X) f args [] (fun r H'=>∃i,P i/\r=r0 i/\H'=[]))(ha:a0e 0 args)(hr:∀i,a0d 0 (r0 i))(H:Hp) :
  a0b (E0 X) f args H (fun r H'=>∃i,P i/\r=r0 i/\H'=H):=by
 refine a0b.conv (a0b.frameLR (E:=E0 X) h H [] (fun j=>by simp) ha (fun j o ho=>by simp at ho)) (a1r _ ha) (by simp [a1T]) ?_
 rintro r H' ⟨r1,h',⟨i,hi,rfl,rfl⟩,-,rfl,rfl⟩
 exact ⟨i,hi,a2h _ (hr i),by simp [a1T]⟩
theorem b8N{img:List UInt8}{rs:List Rg}{i:Nat}{r:Rg}(h:rs[i]?=some r):a5q img (rs.take (i+1))=a5q img (rs.take i)++[(r.h.seq,a5Y img r)]:=by
 obtain ⟨hi,rfl⟩:=List.getElem?_eq_some_iff.1 h
 unfold a5q
 rw [List.take_succ_eq_append_getElem hi,List.map_append];rfl
theorem a5c{h:Hd}(hb:hdB h=true):0<=h.slot/\h.slot<16/\1<=h.seq/\h.seq<=281474976710655/\0<=h.tail/\h.tail<=h.seq/\0<=h.now/\h.now<=549755813888:=by
 unfold hdB at hb
 simp only [Bool.and_eq_true,Bool.or_eq_true,decide_eq_true_eq] at hb
 obtain ⟨_,h1,h2,_,_,h3,h4,h5,h6,h7,h8⟩:=hb
 exact ⟨h1,h2,h3,h4,h5,h6,h7,h8⟩
theorem b7M{s:Sb}(h:sbB s=true):0<=s.mig/\s.mig<=4294967295/\0<=s.tail/\s.tail<=281474976710655/\0<=s.now/\s.now<=549755813888:=by
 unfold sbB at h
 simp only [Bool.and_eq_true,decide_eq_true_eq] at h
 obtain ⟨_,_,h1,h2,h3,h4,h5,h6,_,_⟩:=h
 exact ⟨h1,h2,h3,h4,h5,h6⟩
theorem b2e{n:Nat}(x:RSt):a0e n (rsL x):=a3s (s:=x.s) (a:=.sl 10 (x.rs.map rgA)) (b:=.sl 6 (x.ps.map prA)) (a1d x.rs) (a0F (Nat.zero_le _) (a4o x.ps))
theorem b4a.zero{img:List UInt8}{o:Option Sb}{fit:Sb->Bool}{pl:Sb->List Pl}{now:Int}{x:RSt}{e:Int}(h:b4a img o fit pl now x e)(he:e≠0):x=a9X:=by
 rcases h with h|h|h
 ·exact absurd h.1 he
 ·exact h.2.1
 ·exact h.2.1
end Go.Abs
