/- The laws' Written: what the reference writes. Joined texts, each with what its own name promises; no condition beyond those stated. -/
import Derived.Test.YtkmmdlicifiknaaGreatDoorWC
import Derived.Test.YtkmmdlicifiknaaGreatDoorWP
import Derived.Test.YtkmmdlicifiknaaGreatDoorWO
set_option maxHeartbeats 0
set_option maxRecDepth 100000
set_option linter.all false
namespace Go.Abs
section
variable{X:Nat->Prop}{f:FuncId}{rest:List AV}{r0:AV}{d d':Rd}{h:Hd}{l:La}{s s':List UInt8}{t t':Nat}
end
theorem b2E{l:La}{s:List UInt8}(h:(s.length:Int)<=(l.rs - 1)*59):((padS s).length:Int)<=(l.rs - 1)*59:=by
 simp only [Go.Abs.padS,List.length_append,List.length_replicate]
 omega
theorem c6N(n:Int)(c:Nat)(hc:0<c)(h:c<=1000000):∃k:Nat,(IntKind.i64.wrap (n.tmod c+c)).tmod c=(k:Int)/\k<c:=by
 have h1:n.tmod c<c:=Int.tmod_lt_of_pos n (by omega)
 have h2:-(c:Int)<n.tmod c:=by
  have h0:=Int.tmod_lt_of_pos (-n) (b:=(c:Int)) (by omega)
  rw [Int.neg_tmod] at h0
  omega
 rw [a0p (by omega) (by omega),Int.tmod_eq_emod_of_nonneg (by omega)]
 have h4:=Int.emod_nonneg (n.tmod c+c) (show (c:Int)≠0 by omega)
 have h5:=Int.emod_lt_of_pos (n.tmod c+c) (show (0:Int)<c by omega)
 exact ⟨((n.tmod c+c)%c).toNat,by omega,by omega⟩
theorem c5T(a b:UInt8):AV.int .u8 (IntKind.u8.wrap ((a.toNat:Int)+(b.toNat:Int)))=u8A (a+b):=by
 have h:=a1s (a.toNat+b.toNat)
 rw [show ((a.toNat+b.toNat:Nat):Int)=(a.toNat:Int)+(b.toNat:Int) by omega] at h
 rw [h]
 congr 1
 apply UInt8.toNat_inj.1
 rw [UInt8.toNat_ofNat',UInt8.toNat_add]
 omega
attribute [local irreducible] a0B a1G AWp Nx awM
theorem c1k{ver:Int}{seq:Nat}{b:List UInt8}:∀(n off:Nat),∀p∈a3F ver seq b n off,a3U ver p.2=0:=by
 intro n
 induction n with
 | zero=>intro off p hp;simp [a3F] at hp
 | succ n ih =>
  intro off p hp
  rcases Nat.lt_or_ge off b.length with h|h
  ·rw [a2J n h] at hp
   split at hp
   ·exact ih _ p hp
   cases hd:a6P ver seq off (b.drop off) with
   | none=>rw [hd] at hp;simp at hp
   | some r =>
    rw [hd] at hp
    simp only [List.mem_cons] at hp
    rcases hp with rfl|hp
    ·exact (a7u hd).2.1
    ·exact ih _ p hp
  ·rw [a2q _ h] at hp;simp at hp
theorem c5g{img:List UInt8}{s:Nat}(h:(a5c img (s:Int)).length=64):s*64+64<=img.length:=by
 unfold a5c at h
 split at h
 ·simp at h
 ·omega
theorem b4y(img:List UInt8)(seq:Nat):∀n s,(a5g img seq n s).length<=img.length - s*64
 | 0,_=>Nat.zero_le _
 | n+1,s=>by
  have e:a5g img seq (n+1) s=match a2M 2 seq s (a5c img (s:Int)) with
    | none=>[]
    | some p=>p++a5g img seq n (s+1):=rfl
  have h:=b4y img seq n (s+1)
  rw [e]
  cases hd:a2M 2 seq s (a5c img (s:Int)) with
  | none=>exact Nat.zero_le _
  | some p =>
   obtain ⟨h1,h2⟩:=a2D hd
   have h3:=c5g h2
   show (p++a5g img seq n (s+1)).length<=_
   rw [List.length_append]
   omega
theorem b0h{ver:Int}{seq:Nat}{b:List UInt8}:∀(n off:Nat),16*(a3F ver seq b n off).length<=b.length - off
 | 0,off=>by simp [a3F]
 | n+1,off=>by
  rcases Nat.lt_or_ge off b.length with h|h
  ·rw [a2J n h]
   split
   ·have h1:=b0h (ver:=ver) (seq:=seq) (b:=b) n ((off / 59+1)*59)
    have:off<=(off / 59+1)*59:=by omega
    omega
   cases hd:a6P ver seq off (b.drop off) with
   | none=>simp
   | some r =>
    have h1:=b0h (ver:=ver) (seq:=seq) (b:=b) n (off+a1K r)
    have h2:=(a7u hd).1
    rw [List.length_drop] at h2
    have h3:16<=a1K r:=by unfold a1K;omega
    rw [List.length_cons]
    omega
  ·rw [a2q _ h];simp
def a9k(img:List UInt8)(r:Rg):List (Nat × Rec):=c1j r.l.ver r.h.seq.toNat (a5g img r.h.seq.toNat (r.l.rs.toNat - 1) ((74+r.h.slot*r.l.rs).toNat+1))
theorem b0j(img:List UInt8)(r:Rg):16*(a9k img r).length<=img.length:=by
 unfold a9k c1j
 have h1:=b0h (ver:=r.l.ver) (seq:=r.h.seq.toNat) (b:=a5g img r.h.seq.toNat (r.l.rs.toNat - 1) ((74+r.h.slot*r.l.rs).toNat+1)) (a5g img r.h.seq.toNat (r.l.rs.toNat - 1) ((74+r.h.slot*r.l.rs).toNat+1)).length 0
 have h2:=b4y img r.h.seq.toNat (r.l.rs.toNat - 1) ((74+r.h.slot*r.l.rs).toNat+1)
 omega
theorem c4H{img:List UInt8}{r:Rg}{p:Nat × Rec}(h:p∈a9k img r):a3U r.l.ver p.2=0:=c1k _ _ p h
theorem b4j{img:List UInt8}{r:Rg}{p:Nat × Rec}(h:p∈a9k img r):p.2.key.length<=255:=(a8u (c4H h)).keyle
def a2x(img:List UInt8)(rs:List Rg):List (Int × List (Nat × Rec)):=rs.map fun r=>(r.h.seq,a9k img r)
theorem b2a(img:List UInt8)(rs:List Rg):(flB (a2x img rs)).length*16<=rs.length*img.length:=by
 induction rs with
 | nil=>simp [a2x,flB]
 | cons r rs ih =>
  have h1:=b0j img r
  have e:(flB (a2x img (r::rs))).length=(a9k img r).length+(flB (a2x img rs)).length:=by simp [a2x,flB]
  rw [e,List.length_cons,Nat.add_mul,Nat.add_mul]
  omega
def mxL(a:Int)(l:List Int):Int:=l.foldl max a
theorem a7z(a x:Int)(l:List Int):mxL a (x::l)=mxL (max a x) l:=rfl
theorem a3A{α:Type}{f:α->Int}{l:List α}{i:Nat}{x:α}(h:l[i]?=some x)(a:Int):mxL a ((l.take (i+1)).map f)=max (mxL a ((l.take i).map f)) (f x):=by
 obtain ⟨hi,rfl⟩:=List.getElem?_eq_some_iff.1 h
 unfold mxL
 rw [List.take_succ_eq_append_getElem hi,List.map_append,List.foldl_append];rfl
theorem d0W(l:List Int)(a:Int):a<=mxL a l:=by
 induction l generalizing a with
 | nil=>exact Int.le_refl _
 | cons x l ih=>rw [a7z];have:=ih (max a x);omega
structure RSt where
 s:Sb
 rs:List Rg
 tail:Int
 next:Int
 now:Int
 plans:Int
 ps:List Pr
def rsL(x:RSt):List AV:=sbL x.s++[.sl 10 (x.rs.map rgA),.int .i64 x.tail,.int .i64 x.next,.int .i64 x.now,.int .i64 x.plans,.sl 6 (x.ps.map prA)]
def a5K:RSt:=⟨a4u,[],0,0,0,0,[]⟩
def c7c(s:Sb)(pl:List Pl):List Pl:=if s.phase=1 then [] else pl
structure c5K(img:List UInt8)(pl:List Pl)(now:Int)(s:Sb)(x:RSt):Prop where
 sb:x.s=s
 plans:x.plans=((c7c s pl).length:Int)
 tail:x.tail=mxL (mxL s.tail ((c7c s pl).map (·.tail))) ((a3T (a2O img) (a1n s)).map (·.h.tail))
 now:x.now=mxL (max now s.now) ((a3T (a2O img) (a1n s)).map (·.h.now))
 next:x.next=max (mxL 1 ((a3T (a2O img) (a1n s)).map (fun r=>r.h.seq+1))) x.tail
 live:∃srt,a6N (a3T (a2O img) (a1n s)) srt/\x.rs=(a4E x.tail srt).reverse
 pairs:IsMap x.ps (b4Z x.now (a8Y (flB (a2x img x.rs))))
def zI:AV:=.int .i64 0
def zSb:List AV:=[zI,zI,zI,zI,zI,zI,zI,zI,zI,zI,zI,zI,zI,.nils]
def rsZ:List AV:=zSb++[.nils,zI,zI,zI,zI,.nils]
theorem a6E{n:Nat}:a0e n rsZ:=⟨trivial,trivial,trivial,trivial,trivial,trivial,trivial,trivial,trivial,trivial,trivial,trivial,trivial,trivial,trivial,trivial,trivial,trivial,trivial,trivial,trivial⟩
def stC(s:Sb)(a:AV)(tail next now plans:Int)(b:AV):List AV:=sbL s++[a,.int .i64 tail,.int .i64 next,.int .i64 now,.int .i64 plans,b]
theorem b0u{n:Nat}(s:Sb):a0e n (sbL s):=a1P (s:=s)
theorem a1Q{n:Nat}{s:Sb}{a b:AV}{t x w p:Int}(ha:a0g n a)(hb:a0g n b):a0e n (stC s a t x w p b) :=
 ⟨trivial,trivial,trivial,trivial,trivial,trivial,trivial,trivial,trivial,trivial,trivial,trivial,trivial,a1k _,ha,trivial,trivial,trivial,trivial,hb,trivial⟩
def rlR(cs:List AV):Hp:=[none,some (.cells rsZ 51),some (.cells cs 51)]
theorem b6T(v:Dv):HOk 5 (a1c v++[none,some (.cells rsZ 51)]):=fun j o' ho=>by
 match j,ho with
 | 0,ho=>cases ho;exact ⟨by simp [a0g],by simp [a0g],trivial,trivial,trivial,trivial⟩
 | 1,ho=>cases ho;exact a0h fun _=>a0n
 | 2,ho=>cases ho;exact ⟨by rw [List.map_map];exact a0h fun _=>trivial,by rw [List.map_map];exact a0h fun p=>(a0h (f:=u8A) fun _=>a0n:a0e _ (p.2.map u8A))⟩
 | 4,ho=>cases ho;exact a6E
theorem a5Y(v:Dv){cs:List AV}(h:a0e 6 cs):HOk 6 (a1c v++rlR cs):=fun j o' ho=>by
 match j,ho with
 | 0,ho=>cases ho;exact ⟨by simp [a0g],by simp [a0g],trivial,trivial,trivial,trivial⟩
 | 1,ho=>cases ho;exact a0h fun _=>a0n
 | 2,ho=>cases ho;exact ⟨by rw [List.map_map];exact a0h fun _=>trivial,by rw [List.map_map];exact a0h fun p=>(a0h (f:=u8A) fun _=>a0n:a0e _ (p.2.map u8A))⟩
 | 4,ho=>cases ho;exact a6E
 | 5,ho=>cases ho;exact h
def a4x(img:List UInt8)(o:Option Sb)(fit:Sb->Bool)(pl:Sb->List Pl)(now:Int)(x:RSt)(e:Int):Prop :=
 (e=0/\0<=now/\now<=549755813888/\∃s,o=some s/\fit s=true/\c5K img (pl s) now s x)\/(e=2/\x=a5K/\¬ (0<=now/\now<=549755813888)) \/
  (e=4/\x=a5K/\0<=now/\now<=549755813888/\∀s,o=some s->fit s=false)
theorem a8w{E:Env}{m:Mu}{w:World}{e:Int}{v:Value}(h:E.Rel m w (.tup [.agg rsZ,.int .i64 e]) v):E.Rel m w (.tup [.agg (rsL a5K),.int .i64 e]) v:=by
 refine a6h (fun v h=>?_) v h
 simp only [Env.Rel,Abs.Rel] at h ⊢
 obtain ⟨vs,rfl,h⟩:=h
 refine ⟨vs,rfl,?_⟩
 obtain ⟨v1,r1,rfl,a1,h⟩:=a0l.1 h
 obtain ⟨v2,r2,rfl,a2,h⟩:=a0l.1 h
 obtain ⟨v3,r3,rfl,a3,h⟩:=a0l.1 h
 obtain ⟨v4,r4,rfl,a4,h⟩:=a0l.1 h
 obtain ⟨v5,r5,rfl,a5,h⟩:=a0l.1 h
 obtain ⟨v6,r6,rfl,a6,h⟩:=a0l.1 h
 obtain ⟨v7,r7,rfl,a7,h⟩:=a0l.1 h
 obtain ⟨v8,r8,rfl,a8,h⟩:=a0l.1 h
 obtain ⟨v9,r9,rfl,a9,h⟩:=a0l.1 h
 obtain ⟨va,ra,rfl,aa,h⟩:=a0l.1 h
 obtain ⟨vb,rb,rfl,ab,h⟩:=a0l.1 h
 obtain ⟨vc,rc,rfl,ac,h⟩:=a0l.1 h
 obtain ⟨vd,rd,rfl,ad,h⟩:=a0l.1 h
 obtain ⟨ve,re,rfl,ae,h⟩:=a0l.1 h
 obtain ⟨vf,rf,rfl,af,h⟩:=a0l.1 h
 obtain ⟨w1,s1,rfl,b1,h⟩:=a0l.1 h
 obtain ⟨w2,s2,rfl,b2,h⟩:=a0l.1 h
 obtain ⟨w3,s3,rfl,b3,h⟩:=a0l.1 h
 obtain ⟨w4,s4,rfl,b4,h⟩:=a0l.1 h
 obtain ⟨w5,s5,rfl,b5,h⟩:=a0l.1 h
 exact a0l.2 ⟨_,_,rfl,a1,a0l.2 ⟨_,_,rfl,a2,a0l.2 ⟨_,_,rfl,a3,a0l.2 ⟨_,_,rfl,a4,a0l.2 ⟨_,_,rfl,a5,a0l.2 ⟨_,_,rfl,a6,a0l.2 ⟨_,_,rfl,a7,a0l.2 ⟨_,_,rfl,a8,a0l.2 ⟨_,_,rfl,a9,a0l.2 ⟨_,_,rfl,aa,
  a0l.2 ⟨_,_,rfl,ab,a0l.2 ⟨_,_,rfl,ac,a0l.2 ⟨_,_,rfl,ad,a0l.2 ⟨_,_,rfl,a2Y 4 ae,a0l.2 ⟨_,_,rfl,a2Y 10 af,a0l.2 ⟨_,_,rfl,b1,a0l.2 ⟨_,_,rfl,b2,a0l.2 ⟨_,_,rfl,b3,a0l.2 ⟨_,_,rfl,b4,a0l.2 ⟨_,_,rfl,a2Y 6 b5,h⟩⟩⟩⟩⟩⟩⟩⟩⟩⟩⟩⟩⟩⟩⟩⟩⟩⟩⟩⟩
theorem c4x{o:Option Sb}{k:Nat}{b:List UInt8}{s:Sb}(h:a2k o k b=some s)(ho:∀s,o=some s->sbB s=true):sbB s=true:=by
 unfold a2k at h
 split at h
 ·exact ho _ h
 rename_i t ht
 split at h
 ·cases h;exact (a6s ht).1
 ·exact ho _ h
theorem b5Z{img:List UInt8}:∀{n:Nat} {s:Sb},a2H img n=some s->sbB s=true
 | 0,_,h=>by cases h
 | n+1,s,h=>c4x h fun t ht=>b5Z ht
theorem a9U{v:Dv}{s:Sb}(h:a2R v=some s):sbB s=true:=by
 unfold a2R at h
 split at h
 ·exact b5Z h
 ·cases h
theorem b1n(v:Dv)(m:Int):∀(n i:Nat),(a5D v m i n).length<=n
 | 0,_=>Nat.zero_le _
 | n+1,i=>by
  have e:a5D v m i (n+1)=match a1J v m i with
    | none=>[]
    | some p=>p::a5D v m (i+1) n:=rfl
  have h:=b1n v m n (i+1)
  rw [e]
  cases a1J v m i with
  | none=>exact Nat.zero_le _
  | some p=>exact Nat.succ_le_succ h
theorem b4r(v:Dv)(m:Int):(a8K v m).length<=36:=b1n v m 36 0
theorem b3Q{tail:Int}{s:List Rg}{r:Rg}:r∈a4E tail s->r∈s:=by
 have:∀(s out:List Rg),r∈s.foldl (b1O tail) out->r∈out\/r∈s:=fun s=>by
  induction s with
  | nil=>intro out h;exact .inl h
  | cons x s ih =>
   intro out h
   rcases ih _ h with h1|h1
   ·unfold b1O at h1
    split at h1
    ·rcases List.mem_append.1 h1 with h2|h2
     ·exact .inl h2
     ·rw [List.mem_singleton.1 h2];exact .inr (List.mem_cons_self ..)
    ·exact .inl h1
   ·exact .inr (List.mem_cons_of_mem _ h1)
 intro h
 rcases this s [] h with h1|h1
 ·cases h1
 ·exact h1
theorem a4Q{X:Nat->Prop}{f:FuncId}{args:List AV}{ι:Type}{P:ι->Prop}{r0:ι->AV}(h:∀X,a0b (E0 X) f args [] (fun r H'=>∃i,P i/\r=r0 i/\H'=[]))(ha:a0e 0 args)(hr:∀i,a0g 0 (r0 i))(H:Hp) :
  a0b (E0 X) f args H (fun r H'=>∃i,P i/\r=r0 i/\H'=H):=by
 refine a0b.conv (a0b.frameLR (E:=E0 X) h H [] (fun j=>by simp) ha (fun j o ho=>by simp at ho)) (a1a _ ha) (by simp [a1U]) ?_
 rintro r H' ⟨r1,h',⟨i,hi,rfl,rfl⟩,-,rfl,rfl⟩
 exact ⟨i,hi,a2r _ (hr i),by simp [a1U]⟩
theorem c2w(v:Dv){cs:List AV}(h:∀{n},a0e n cs)(bs:List (Int × List (Nat × Rec))):HOk 7 (a1c v++rlR cs++[some (.arr (bs.map baA) 138)]):=fun j o' ho=>by
 match j,ho with
 | 0,ho=>cases ho;exact ⟨by simp [a0g],by simp [a0g],trivial,trivial,trivial,trivial⟩
 | 1,ho=>cases ho;exact a0h fun _=>a0n
 | 2,ho=>cases ho;exact ⟨by rw [List.map_map];exact a0h fun _=>trivial,by rw [List.map_map];exact a0h fun p=>(a0h (f:=u8A) fun _=>a0n:a0e _ (p.2.map u8A))⟩
 | 4,ho=>cases ho;exact a6E
 | 5,ho=>cases ho;exact h
 | 6,ho=>cases ho;exact a0x (Nat.zero_le _) (a2v bs)
theorem b3n{img:List UInt8}{rs:List Rg}{i:Nat}{r:Rg}(h:rs[i]?=some r):a2x img (rs.take (i+1))=a2x img (rs.take i)++[(r.h.seq,a9k img r)]:=by
 obtain ⟨hi,rfl⟩:=List.getElem?_eq_some_iff.1 h
 unfold a2x
 rw [List.take_succ_eq_append_getElem hi,List.map_append];rfl
theorem a8f{h:Hd}(hb:hdB h=true):0<=h.slot/\h.slot<16/\1<=h.seq/\h.seq<=281474976710655/\0<=h.tail/\h.tail<=h.seq/\0<=h.now/\h.now<=549755813888:=by
 unfold hdB at hb
 simp only [Bool.and_eq_true,Bool.or_eq_true,decide_eq_true_eq] at hb
 obtain ⟨_,h1,h2,_,_,h3,h4,h5,h6,h7,h8⟩:=hb
 exact ⟨h1,h2,h3,h4,h5,h6,h7,h8⟩
theorem b8D{s:Sb}(h:sbB s=true):0<=s.mig/\s.mig<=4294967295/\0<=s.tail/\s.tail<=281474976710655/\0<=s.now/\s.now<=549755813888:=by
 unfold sbB at h
 simp only [Bool.and_eq_true,decide_eq_true_eq] at h
 obtain ⟨_,_,h1,h2,h3,h4,h5,h6,_,_⟩:=h
 exact ⟨h1,h2,h3,h4,h5,h6⟩
theorem c6K(X:Nat->Prop)(v:Dv)(L:Nat)(hv:Lv L v)(hL:L<=20000)(now:Int):a0b (E0 X) 18 [.ptr 0 0,.int .i64 now] (a1c v)
  (fun r H'=>∃x e,a4x v.image (a2R v) (fun s=>!(a1n s).any (nfB v)) (fun s=>a8K v s.mig) now x e/\∃b,(e≠0->b=rsZ)/\(e=0->b=rsL x)/\r=.tup [.agg b,.int .i64 e]/\H'.take 3=a1c v):=by
 have hdc:∀Y,a0b (E0 Y) 55 [.ptr 0 0] (a1c v) (fun r H'=>r=.bool false/\H'=a1c v):=fun Y=>by
  have h:=c6b Y v
  rw [hv.dead] at h
  exact h
 have hlv:v.image.length<=20000:=by rw [hv.len];exact hL
 refine Z0 Proofs.Tryz.func18 rfl Proofs.Tryz.ntmps18 (by kernel_rfl) rfl ?_
 refine Zc rfl (Zc rfl (Zs rfl (Zs rfl (Zs rfl (Zh ?_)))))
 refine Kz 3 [1,2,4,5] 5 (b6T v) rfl rfl ⟨trivial,a1I (Nat.zero_lt_succ 4),Nat.lt_succ_self 4,trivial,trivial⟩ ?_
 repeat' (first|refine Zs rfl ?_|refine Zc rfl ?_)
 refine Zf rfl rfl (b4Q hdc trivial trivial [none,some (.cells rsZ 51)] (X:=X)) rfl rfl rfl ?_
 repeat' (first|refine Zs rfl ?_|refine Zc rfl ?_)
 by_cases h1:now<0
 ·rw [decide_eq_true h1]
  repeat' (first|refine Zs rfl ?_|refine Zc rfl ?_)
  exact a0c ⟨_,rfl,a5K,2,.inr (.inl ⟨rfl,rfl,fun h=>absurd h1 (by omega)⟩),rsZ,fun _=>rfl,(fun h=>by cases h),rfl,rfl⟩
 rw [decide_eq_false h1]
 repeat' (refine Zs rfl ?_)
 by_cases h2:now > 549755813888
 ·rw [decide_eq_true h2]
  repeat' (first|refine Zs rfl ?_|refine Zc rfl ?_)
  exact a0c ⟨_,rfl,a5K,2,.inr (.inl ⟨rfl,rfl,fun h=>absurd h2 (by omega)⟩),rsZ,fun _=>rfl,(fun h=>by cases h),rfl,rfl⟩
 rw [decide_eq_false h2]
 repeat' (first|refine Zs rfl ?_|refine Zc rfl ?_)
 have hsl:∀Y,a0b (E0 Y) 56 [.ptr 0 0] (a1c v) (fun r H'=>r=b5J (a2R v)/\H'=a1c v):=fun Y=>c5l Y v hv.inv
 cases ho:a2R v with
 | none =>
  rw [ho] at hsl
  refine Zf rfl rfl (b4Q hsl trivial ⟨a1P,trivial,trivial⟩ [none,some (.cells rsZ 51)] (X:=X)) rfl rfl rfl ?_
  repeat' (refine Zs rfl ?_)
  refine Zh ?_
  refine Zc rfl ?_
  refine Zc rfl ?_
  refine Zs rfl ?_
  refine Zs rfl ?_
  refine Qa rfl ?_
  refine a1i rfl rfl rfl rfl rfl rfl rfl (.inl rfl) rfl (.inl rfl) ?_
  refine nx rfl rfl ?_
  repeat' (refine Zs rfl ?_)
  refine Qa rfl ?_
  have hone:a2N ((a4u.fo).map laA):=fun y hy=>by cases hy
  have h11:1<=1001:=by decide
  refine a0V (oid:=some 6) (es:=[laA a4u.t]) (out:=[laA a4u.t]) (n:=1) (a0J rfl rfl) (rfl) (hone) (rfl) (rfl) (by show _<=9223372036854775807;omega) (by show _*32<=_;omega) rfl rfl rfl rfl rfl rfl rfl rfl ?_
  refine nx rfl rfl ?_
  repeat' (first|refine Zs rfl ?_|refine Zc rfl ?_)
  exact a0c ⟨_,rfl,a5K,4,.inr (.inr ⟨rfl,rfl,by omega,by omega,fun t ht=>by cases ht⟩),rsZ,fun _=>rfl,(fun h=>by cases h),rfl,rfl⟩
 | some s =>
  rw [ho] at hsl
  refine Zf rfl rfl (b4Q hsl trivial ⟨a1P,trivial,trivial⟩ [none,some (.cells rsZ 51)] (X:=X)) rfl rfl rfl ?_
  repeat' (refine Zs rfl ?_)
  have hsi:∀{n},a0g n (.fp (sbL s)):=b0u s
  have hsb:=a9U ho
  obtain ⟨hlf,hln,hl2⟩:=a9f hsb
  refine Zh (Kz 5 [1,2,4,5,6,7] 5 (b6T v) rfl rfl ⟨trivial,a1I (Nat.zero_lt_succ 4),Nat.lt_succ_self 4,trivial,hsi,trivial,trivial⟩ ?_)
  refine Zc rfl ?_
  refine Zc rfl ?_
  refine Zs rfl ?_
  refine Zs rfl ?_
  refine Qa rfl ?_
  refine a1i rfl rfl rfl rfl rfl rfl rfl (.inl rfl) rfl (.inl rfl) ?_
  refine nx rfl rfl ?_
  repeat' (refine Zs rfl ?_)
  refine Qa rfl ?_
  have hl1:[laA s.t]++s.fo.map laA=(a1n s).map laA:=rfl
  have hll:(a1n s).length=s.fo.length+1:=rfl
  have hl2':[laA s.t].length+(s.fo.map laA).length=(a1n s).length:=by simp only [List.length_map,List.length_cons,List.length_nil];omega
  have hl3:(a1n s).length<=1001:=by omega
  have hone:a2N (s.fo.map laA):=fun y hy=>by
   obtain ⟨b,_,rfl⟩:=List.mem_map.1 hy;exact ⟨rfl,rfl⟩
  refine a0V (oid:=some 5) (es:=[laA s.t]) (out:=(a1n s).map laA) (n:=(a1n s).length) (a0J rfl rfl) (rfl) (hone) (hl1) (hl2') (by show _<=9223372036854775807;omega) (by show _*32<=_;omega) rfl rfl rfl rfl rfl rfl rfl rfl ?_
  refine nx rfl rfl ?_
  repeat' (refine Zs rfl ?_)
  have hly:∀{n},a0e n ((a1n s).map laA):=a1k _
  have hlm:(a1n s).length=((a1n s).map laA).length:=(List.length_map _).symm
  rw [hlm]
  refine Zh (a0t ((a0M (id:=6) (k:=4) (es:=(a1n s).map laA) (e:=23) rfl rfl (by kernel_rfl)).trans (a0i 5 (Nat.le_of_ble_eq_true rfl) (b6T v) rfl (Nat.le_of_ble_eq_true rfl)
   (sl':=[(1,.int .i64 now),(2,b9y),(4,.ptr 4 0),(5,.int .i64 0),(6,.fp (sbL s)),(7,.bool true),(8,.sl 4 ((a1n s).map laA))]) ?_)) ?_)
  ·exact a0a ⟨rfl,trivial⟩ (a0a ⟨rfl,a1I (Nat.zero_lt_succ 4)⟩ (a0a ⟨rfl,Nat.lt_succ_self 4⟩ (a0a ⟨rfl,trivial⟩ (a0a ⟨rfl,hsi⟩ (a0a ⟨rfl,trivial⟩ (a0a ⟨by simp [get,frz];exact List.take_of_length_le (by rw [List.length_map];exact Nat.le_refl _),hly⟩ a0k))))))
  repeat' (first|refine Zs rfl ?_|refine Zc rfl ?_)
  refine Zf rfl rfl (c0L X v hv.inv (a1n s) (by omega) [none,some (.cells rsZ 51)]) rfl rfl rfl ?_
  cases hany:(a1n s).any (nfB v) with
  | true =>
   repeat' (first|refine Zs rfl ?_|refine Zc rfl ?_)
   refine a0c ⟨_,rfl,a5K,4,.inr (.inr ⟨rfl,rfl,by omega,by omega,fun t ht=>?_⟩),rsZ,fun _=>rfl,(fun h=>by cases h),rfl,rfl⟩
   cases ht
   show (!(a1n s).any (nfB v))=false
   rw [hany];rfl
  | false =>
   have hmg:=b8D hsb
   obtain ⟨nw,hnw⟩:∃nw,nw=max now s.now:=⟨_,rfl⟩
   obtain ⟨pl,hpl⟩:∃pl,pl=c7c s (a8K v s.mig):=⟨_,rfl⟩
   obtain ⟨T1,hT1⟩:∃T1,T1=mxL s.tail (pl.map (·.tail)):=⟨_,rfl⟩
   repeat' (first|refine Zs rfl ?_|refine Zh ?_|refine Ql ?_|refine Qo rfl ?_|refine Qm ?_|refine Qq rfl ?_)
   rw [<- hnw]
   refine a1r (I:=fun _:Unit=>True) (σ:=fun _=>⟨[(2,b9y),(4,.ptr 4 0),(6,.fp (sbL s)),(8,.sl 4 ((a1n s).map laA)),(9,.ptr 5 0)],a1c v++rlR (stC s .nils T1 0 nw (pl.length:Int) .nils)⟩) ?_ ?_
   ·refine a0d rfl (fun hph=>?_) (fun hph=>?_)
    ·have hpe:pl=a8K v s.mig:=by rw [hpl];exact if_neg hph
     have hrc:∀Y,a0b (E0 Y) 61 [.ptr 0 0,.int .i64 s.mig] (a1c v) (fun r H'=>r=.sl 8 (pl.map plA)/\H'=a1c v):=fun Y=>by rw [hpe];exact c1n Y v hv.inv s.mig (by omega)
     have hpn:pl.length<=36:=by rw [hpe];exact b4r v s.mig
     have hpi:∀{n},a0e n (pl.map plA):=a0h fun _=>a3o
     repeat' (first|refine Zs rfl ?_|refine Zc rfl ?_)
     refine Zf rfl rfl (b4Q hrc ⟨trivial,trivial⟩ hpi (rlR (stC s .nils s.tail 0 nw 0 .nils)) (X:=X)) rfl rfl rfl ?_
     repeat' (first|refine Zs rfl ?_|refine Zc rfl ?_)
     refine a0q (fun i:Nat=>⟨[(2,b9y),(4,.ptr 4 0),(6,.fp (sbL s)),(8,.sl 4 ((a1n s).map laA)),(9,.ptr 5 0),(61,.sl 8 (pl.map plA)),(62,.int .i64 (pl.length:Int)),(63,.int .i64 (i:Int))],a1c v++rlR (stC s .nils (mxL s.tail ((pl.take i).map (·.tail))) 0 nw (i:Int) .nils)⟩) (fun i=>i<=pl.length) (fun i=>pl.length - i) 0 (Nat.zero_le _) ?_ ?_
     ·refine a0i 6 (Nat.le_of_ble_eq_true rfl) (a5Y v (a1Q trivial trivial)) rfl (Nat.le_refl 6) ?_
      exact a0a ⟨rfl,a1I (Nat.zero_lt_succ 5)⟩ (a0a ⟨rfl,Nat.lt_succ_of_lt (Nat.lt_succ_self 4)⟩ (a0a ⟨rfl,hsi⟩ (a0a ⟨rfl,hly⟩ (a0a ⟨rfl,Nat.lt_succ_self 5⟩ (a0a ⟨rfl,hpi⟩ (a0a ⟨by rw [List.length_map];rfl,trivial⟩ (a0a ⟨rfl,trivial⟩ a0k)))))))
     intro i hi
     repeat' (first|refine Zs rfl ?_|refine Zc rfl ?_)
     refine a0d rfl (fun h3=>?_) (fun h3=>?_)
     ·have hil:i<pl.length:=by omega
      obtain ⟨q,hq⟩:∃q,pl[i]?=some q:=⟨_,List.getElem?_eq_getElem hil⟩
      have hms:=a3A (f:=fun p:Pl=>p.tail) hq s.tail
      have hiw:IntKind.i64.wrap ((i:Int)+1)=((i+1:Nat):Int):=a0p (by omega) (by omega)
      repeat' (refine Zc rfl ?_)
      refine Qa rfl ?_
      refine a0y hq rfl rfl rfl rfl rfl rfl rfl (by first|rfl|omega) rfl ?_
      refine nx rfl rfl ?_
      repeat' (first|refine Zs rfl ?_|refine Zc rfl ?_)
      rw [hiw]
      refine ⟨i+1,by omega,by omega,?_⟩
      rw [hms]
      exact kk 6 (a5Y v (a1Q trivial trivial)) rfl ⟨a1I (Nat.zero_lt_succ 5),Nat.lt_succ_of_lt (Nat.lt_succ_self 4),hsi,hly,Nat.lt_succ_self 5,hpi,trivial,trivial,trivial⟩
     have hii:i=pl.length:=by omega
     repeat' (refine Zc rfl ?_)
     refine ⟨rfl,(),trivial,?_⟩
     rw [hii,List.take_length,<- hT1]
     exact kk 6 (a5Y v (a1Q trivial trivial)) rfl ⟨a1I (Nat.zero_lt_succ 5),Nat.lt_succ_of_lt (Nat.lt_succ_self 4),hsi,hly,Nat.lt_succ_self 5,trivial⟩
    have hph1:s.phase=1:=Decidable.not_not.1 hph
    have hpe:pl=[]:=by rw [hpl];exact if_pos hph1
    rw [hpe] at hT1 ⊢
    rw [hT1]
    repeat' (refine Zc rfl ?_)
    refine ⟨rfl,(),trivial,?_⟩
    exact kk 6 (a5Y v (a1Q trivial trivial)) rfl ⟨a1I (Nat.zero_lt_succ 5),Nat.lt_succ_of_lt (Nat.lt_succ_self 4),hsi,hly,Nat.lt_succ_self 5,trivial⟩
   intro _ _
   obtain ⟨cs,hcs⟩:∃cs,cs=a3T (a2O v.image) (a1n s):=⟨_,rfl⟩
   have hcc:∀Y,a0b (E0 Y) 62 [.ptr 0 0,.sl 4 ((a1n s).map laA)] (a1c v) (fun r H'=>r=.sl 10 (cs.map rgA)/\H'=a1c v):=fun Y=>by
    have h:=c3r Y v hv.inv (a1n s) hlf (by omega)
    have he:a3s v=a2O v.image:=funext fun l=>funext fun k=>c1y hv l k
    rw [he,<- hcs] at h
    exact h
   have hcl:cs.length<=48:=by
    have h:=a5P (hdr:=a2O v.image) hlf
    rw [hcs];omega
   have hci:∀{n},a0e n (cs.map rgA):=a0Y cs
   have hck:∀r∈cs,c5S (a1n s) r:=fun r hr=>(b3s (by rw [hcs] at hr;exact hr)).1
   obtain ⟨T2,hT2⟩:∃T2,T2=mxL T1 (cs.map (·.h.tail)):=⟨_,rfl⟩
   obtain ⟨N2,hN2⟩:∃N2,N2=mxL nw (cs.map (·.h.now)):=⟨_,rfl⟩
   obtain ⟨S2,hS2⟩:∃S2,S2=mxL 1 (cs.map (fun r=>r.h.seq+1)):=⟨_,rfl⟩
   repeat' (first|refine Zs rfl ?_|refine Zc rfl ?_)
   refine Zf rfl rfl (b4Q hcc ⟨a1k _,trivial⟩ hci (rlR (stC s .nils T1 0 nw (pl.length:Int) .nils)) (X:=X)) rfl rfl rfl ?_
   repeat' (first|refine Zs rfl ?_|refine Zh ?_|refine Ql ?_|refine Qo rfl ?_)
   refine a1r (I:=fun _:Unit=>True) (σ:=fun _=>⟨[(2,b9y),(4,.ptr 4 0),(9,.ptr 5 0),(12,.sl 10 (cs.map rgA))],a1c v++rlR (stC s .nils T2 S2 N2 (pl.length:Int) .nils)⟩) ?_ ?_
   ·refine Zc rfl ?_
    refine a0q (fun i:Nat=>⟨[(2,b9y),(4,.ptr 4 0),(9,.ptr 5 0),(12,.sl 10 (cs.map rgA)),(82,.sl 10 (cs.map rgA)),(83,.int .i64 (cs.length:Int)),(84,.int .i64 (i:Int))],a1c v++rlR (stC s .nils (mxL T1 ((cs.take i).map (·.h.tail))) (mxL 1 ((cs.take i).map (fun r=>r.h.seq+1))) (mxL nw ((cs.take i).map (·.h.now))) (pl.length:Int) .nils)⟩) (fun i=>i<=cs.length) (fun i=>cs.length - i) 0 (Nat.zero_le _) ?_ ?_
    ·refine a0i 6 (Nat.le_of_ble_eq_true rfl) (a5Y v (a1Q trivial trivial)) rfl (Nat.le_refl 6) ?_
     exact a0a ⟨rfl,a1I (Nat.zero_lt_succ 5)⟩ (a0a ⟨rfl,Nat.lt_succ_of_lt (Nat.lt_succ_self 4)⟩ (a0a ⟨rfl,Nat.lt_succ_self 5⟩ (a0a ⟨rfl,hci⟩ (a0a ⟨rfl,hci⟩ (a0a ⟨by rw [List.length_map];rfl,trivial⟩ (a0a ⟨rfl,trivial⟩ a0k))))))
    intro i hi
    repeat' (first|refine Zs rfl ?_|refine Zc rfl ?_)
    refine a0d rfl (fun h3=>?_) (fun h3=>?_)
    ·have hil:i<cs.length:=by omega
     obtain ⟨q,hq,_,hqa⟩:=b5L hil
     have hqk:=hck q (List.mem_of_getElem? hq)
     have hqb:=a8f hqk.hd
     have hm1:=a3A (f:=fun r:Rg=>r.h.tail) hq T1
     have hm2:=a3A (f:=fun r:Rg=>r.h.seq+1) hq 1
     have hm3:=a3A (f:=fun r:Rg=>r.h.now) hq nw
     have hiw:IntKind.i64.wrap ((i:Int)+1)=((i+1:Nat):Int):=a0p (by omega) (by omega)
     have hsw:IntKind.i64.wrap (q.h.seq+1)=q.h.seq+1:=a0p (by omega) (by omega)
     repeat' (refine Zc rfl ?_)
     refine Qa rfl ?_
     refine a0y hq rfl rfl rfl rfl rfl rfl rfl (by first|rfl|omega) rfl ?_
     refine nx rfl rfl ?_
     repeat' (first|refine Zs rfl ?_|refine Zc rfl ?_)
     rw [hiw,hsw]
     refine ⟨i+1,by omega,by omega,?_⟩
     rw [hm1,hm2,hm3]
     exact kk 6 (a5Y v (a1Q trivial trivial)) rfl ⟨a1I (Nat.zero_lt_succ 5),Nat.lt_succ_of_lt (Nat.lt_succ_self 4),Nat.lt_succ_self 5,hci,hci,trivial,trivial,trivial⟩
    have hii:i=cs.length:=by omega
    repeat' (refine Zc rfl ?_)
    refine ⟨rfl,(),trivial,?_⟩
    rw [hii,List.take_length,<- hT2,<- hS2,<- hN2]
    exact kk 6 (a5Y v (a1Q trivial trivial)) rfl ⟨a1I (Nat.zero_lt_succ 5),Nat.lt_succ_of_lt (Nat.lt_succ_self 4),Nat.lt_succ_self 5,hci,trivial⟩
   intro _ _
   repeat' (first|refine Zs rfl ?_|refine Zc rfl ?_)
   obtain ⟨N3,hN3⟩:∃N3,N3=max S2 T2:=⟨_,rfl⟩
   rw [<- hN3]
   refine Zx rfl rfl (a4Q (fun Y=>c6J Y cs T2 (by omega)) ⟨hci,trivial,trivial⟩ (fun s=>a0Y _) _) rfl ?_
   intro srt hsrt
   have hrm:∀r∈(a4E T2 srt).reverse,c5S (a1n s) r:=fun r hr=>hck r (hsrt.1.mem_iff.1 (b3Q (List.mem_reverse.1 hr)))
   have hrl:(a4E T2 srt).reverse.length<=48:=by have:=a5a T2 srt;have:=hsrt.1.length_eq;rw [List.length_reverse];omega
   obtain ⟨rs,hrs⟩:∃rs,rs=(a4E T2 srt).reverse:=⟨_,rfl⟩
   rw [<- hrs] at hrm hrl
   rw [<- hrs]
   have hri:∀{n},a0e n (rs.map rgA):=a0Y rs
   have hri2:∀{n},a0g n (.sl 10 (rs.map rgA)):=a0Y rs
   have hst:∀{n},a0e n (stC s (.sl 10 (rs.map rgA)) T2 N3 N2 (pl.length:Int) .nils):=a1Q hri2 trivial
   repeat' (first|refine Zs rfl ?_|refine Zh ?_|refine Ql ?_|refine Qo rfl ?_)
   refine a1r (I:=fun _:Unit=>True) (σ:=fun _=>⟨[(4,.ptr 4 0),(9,.ptr 5 0),(15,.sl 2 ((a2x v.image rs).map baA))],a1c v++rlR (stC s (.sl 10 (rs.map rgA)) T2 N3 N2 (pl.length:Int) .nils)⟩) ?_ ?_
   ·have hreg:∀r∈rs,∀Y,a0b (E0 Y) 47 [.ptr 0 0,laA r.l,.int .i64 r.h.slot,.int .i64 r.h.seq] (a1c v) (fun x H'=>x=.sl 6 ((a9k v.image r).map foA)/\H'=a1c v):=fun r hr Y=>by
     have hq:=a8f (hrm r hr).hd
     have h:=b8T Y v hv.inv r.l r.h.slot r.h.seq.toNat (hrm r hr).slot (by omega) (by omega)
     rw [Int.toNat_of_nonneg (by omega),b1G hv] at h
     exact h
    refine Zc rfl ?_
    refine a0q (fun i:Nat=>⟨[(2,b9y),(4,.ptr 4 0),(9,.ptr 5 0),(15,.own 6 0 i),(123,.sl 10 (rs.map rgA)),(124,.int .i64 (rs.length:Int)),(125,.int .i64 (i:Int))],a1c v++rlR (stC s (.sl 10 (rs.map rgA)) T2 N3 N2 (pl.length:Int) .nils)++[some (.arr ((a2x v.image (rs.take i)).map baA) 138)]⟩) (fun i=>i<=rs.length) (fun i=>rs.length - i) 0 (Nat.zero_le _) ?_ ?_
    ·refine (imp_nil 15 138 rfl).trans (a0i 7 (Nat.le_of_ble_eq_true rfl) (c2w v hst []) rfl (Nat.le_refl 7) ?_)
     exact a0a ⟨rfl,a1I (Nat.zero_lt_succ 6)⟩ (a0a ⟨rfl,by show 4<7;decide⟩ (a0a ⟨rfl,by show 5<7;decide⟩ (a0a ⟨rfl,by show 6<7;decide⟩ (a0a ⟨rfl,hri⟩ (a0a ⟨by rw [List.length_map];rfl,trivial⟩ (a0a ⟨rfl,trivial⟩ a0k))))))
    intro i hi
    repeat' (first|refine Zs rfl ?_|refine Zc rfl ?_)
    refine a0d rfl (fun h3=>?_) (fun h3=>?_)
    ·have hil:i<rs.length:=by omega
     obtain ⟨q,hq,_,hqa⟩:=b5L hil
     have hqm:=List.mem_of_getElem? hq
     have hiw:IntKind.i64.wrap ((i:Int)+1)=((i+1:Nat):Int):=a0p (by omega) (by omega)
     have hbs:=b3n (img:=v.image) hq
     have hqi:∀{n},a0g n (.fp (rgL q)):=a2A q
     repeat' (refine Zc rfl ?_)
     refine Qa rfl ?_
     refine a0y hq rfl rfl rfl rfl rfl rfl rfl (by first|rfl|omega) rfl ?_
     refine nx rfl rfl ?_
     repeat' (refine Zs rfl ?_)
     refine Zh (Kz 7 [2,4,9,15,17,123,124,125] 7 (c2w v hst (a2x v.image (rs.take i))) rfl rfl ⟨a1I (Nat.zero_lt_succ 6),(by show 4<7;decide),(by show 5<7;decide),(by show 6<7;decide),hqi,hri,trivial,trivial,trivial⟩ ?_)
     have hbl:(a2x v.image (rs.take i)).length=i:=by unfold a2x;rw [List.length_map,List.length_take];omega
     have hrq:a0b (E0 X) 47 [.ptr 0 0,laA q.l,.int .i64 q.h.slot,.int .i64 q.h.seq] (a1c v++rlR (stC s (.sl 10 (rs.map rgA)) T2 N3 N2 (pl.length:Int) .nils)++[some (.arr ((a2x v.image (rs.take i)).map baA) 138)])
       (fun x H'=>x=.sl 6 ((a9k v.image q).map foA)/\H'=a1c v++rlR (stC s (.sl 10 (rs.map rgA)) T2 N3 N2 (pl.length:Int) .nils)++[some (.arr ((a2x v.image (rs.take i)).map baA) 138)]):=by
      have h:=b4Q (hreg q hqm) ⟨a1u,trivial,trivial,trivial⟩ (a0h fun _=>a2j:a0e 0 ((a9k v.image q).map foA)) (rlR (stC s (.sl 10 (rs.map rgA)) T2 N3 N2 (pl.length:Int) .nils)++[some (AO.arr ((a2x v.image (rs.take i)).map baA) 138)]) (X:=X)
      rw [<- List.append_assoc] at h
      exact h
     refine a0o [13,16] [0,1,2,3,4,5,6,7,8,9,10,11,12,14,17] (by exact rfl) ?_
     refine a0C (fuel:=0) [0,1,2,3,4,5,6,7,8,9,10,11,12,13,14,15,16,17] (by exact rfl) (by kernel_rfl) (by kernel_rfl) ?_
     repeat' (refine Zd rfl ?_)
     refine a1D rfl rfl rfl ?_
     refine Cn rfl (hrq) rfl rfl ?_
     repeat' (refine Zd rfl ?_)
     refine a1D rfl rfl rfl ?_
     have hl1:((a2x v.image (rs.take i)).map baA)++[baA (q.h.seq,a9k v.image q)]=(a2x v.image (rs.take (i+1))).map baA:=by rw [hbs,List.map_append];rfl
     have hl2:((a2x v.image (rs.take i)).map baA).length+1=i+1:=by rw [List.length_map,hbl]
     have hl3:i+1<=49:=by omega
     have hone:a2N [baA (q.h.seq,a9k v.image q)]:=fun y hy=>by rw [List.mem_singleton.1 hy];exact ⟨rfl,rfl⟩
     refine a0V (oid:=some 6) (es:=(a2x v.image (rs.take i)).map baA) (out:=(a2x v.image (rs.take (i+1))).map baA) (n:=i+1) (a0J rfl (by rw [List.length_map,hbl])) (rfl) (hone) (hl1) (hl2) (by show _<=9223372036854775807;omega) (by show _*32<=_;omega) rfl rfl rfl rfl rfl rfl rfl rfl ?_
     refine nx rfl rfl ?_
     repeat' (first|refine Zs rfl ?_|refine Zc rfl ?_|refine Zd rfl ?_|refine Zk ?_|refine Qw (by kernel_rfl) ?_)
     rw [hiw]
     refine ⟨i+1,by omega,by omega,?_⟩
     refine a0L 6 [7] (H':=a1c v++rlR (stC s (.sl 10 (rs.map rgA)) T2 N3 N2 (pl.length:Int) .nils)++[some (.arr ((a2x v.image (rs.take (i+1))).map baA) 138)]) (os:=[.arr ((a2x v.image (rs.take (i+1))).map baA) 138]) (show 3<=6 by decide) ?_ (by simp) (by simp) ?_ rfl ?_ ?_ ?_
     ·exact Nat.le_of_ble_eq_true rfl
     ·exact a5Y v hst
     ·rfl
     ·exact a0a (a0s rfl (a1I (Nat.zero_lt_succ 5))) (a0a (a0s rfl (by show 4<6;decide)) (a0a (a0s rfl (by show 5<6;decide)) (a0a (a0D rfl) (a0a (a0s rfl hri) (a0a (a0s rfl trivial) (a0a (a0s rfl trivial) a0k))))))
     ·exact a0v rfl (a0A 6 a1V (a0x (Nat.zero_le _) (a2v _))) a0N
    have hii:i=rs.length:=by omega
    repeat' (refine Zc rfl ?_)
    refine ⟨rfl,(),trivial,?_⟩
    have hbl:i=((a2x v.image (rs.take i)).map baA).length:=by rw [List.length_map];unfold a2x;rw [List.length_map,List.length_take];omega
    have htk:rs.take i=rs:=by rw [hii,List.take_length]
    rw [htk] at hbl ⊢
    rw [hbl]
    refine (a0M (id:=6) (k:=2) (es:=(a2x v.image rs).map baA) (e:=138) rfl rfl (by kernel_rfl)).trans (a0i 6 (Nat.le_of_ble_eq_true rfl) (a5Y v hst) rfl (Nat.le_of_ble_eq_true rfl) ?_)
    exact a0a ⟨rfl,by show 4<6;decide⟩ (a0a ⟨rfl,by show 5<6;decide⟩ (a0a ⟨by simp [get,frz,b9y,List.take_of_length_le];rfl,a0x (Nat.zero_le _) (a2v _)⟩ a0k))
   intro _ _
   repeat' (first|refine Zs rfl ?_|refine Zc rfl ?_)
   have hbt:=b2a v.image rs
   have hbl:(a2x v.image rs).length=rs.length:=by simp [a2x]
   have hbm:rs.length*v.image.length<=48*20000:=Nat.mul_le_mul hrl hlv
   have hkey:∀b∈a2x v.image rs,∀p∈b.2,p.2.key.length<=1000000:=fun b hb p hp=>by
    obtain ⟨r,_,rfl⟩:=List.mem_map.1 hb
    have:=b4j hp
    omega
   have hll:∀b∈a2x v.image rs,b.2.length<=290000:=fun b hb=>by
    obtain ⟨r,_,rfl⟩:=List.mem_map.1 hb
    have:=b0j v.image r
    show (a9k v.image r).length<=290000
    omega
   refine Zx rfl rfl (a4Q (fun Y=>c7p Y (a2x v.image rs) N2 hkey (by omega) (by omega) hll) ⟨a2v _,trivial,trivial⟩ (fun L=>a2b L) _) rfl ?_
   intro Lp hLp
   repeat' (first|refine Zs rfl ?_|refine Zc rfl ?_)
   refine a0c ⟨_,rfl,⟨s,rs,T2,N3,N2,(pl.length:Int),Lp⟩,0,.inl ⟨rfl,by omega,by omega,s,rfl,?_,?_⟩,_,(fun h=>absurd rfl h),fun _=>?_,rfl,rfl⟩
   ·show (!(a1n s).any (nfB v))=true
    rw [hany];rfl
   ·refine ⟨rfl,?_,?_,?_,?_,⟨srt,by rw [<- hcs];exact hsrt,hrs⟩,hLp⟩
    ·show (pl.length:Int)=_
     rw [hpl]
    ·show T2=_
     rw [hT2,hT1,hpl,hcs]
    ·show N2=_
     rw [hN2,hnw,hcs]
    ·show N3=max _ T2
     rw [hN3,hS2,hcs]
   ·rfl
theorem a6D{n:Nat}(x:RSt):a0e n (rsL x):=a1Q (s:=x.s) (a:=.sl 10 (x.rs.map rgA)) (b:=.sl 6 (x.ps.map prA)) (a0Y x.rs) (a0x (Nat.zero_le _) (a2b x.ps))
theorem a4x.zero{img:List UInt8}{o:Option Sb}{fit:Sb->Bool}{pl:Sb->List Pl}{now:Int}{x:RSt}{e:Int}(h:a4x img o fit pl now x e)(he:e≠0):x=a5K:=by
 rcases h with h|h|h
 ·exact absurd h.1 he
 ·exact h.2.1
 ·exact h.2.1
theorem b7l(X:Nat->Prop)(v:Dv)(L:Nat)(hv:Lv L v)(hL:L<=20000)(now:Int):a0b (E0 X) 18 [.ptr 0 0,.int .i64 now] (a1c v)
  (fun r H'=>∃x e,a4x v.image (a2R v) (fun s=>!(a1n s).any (nfB v)) (fun s=>a8K v s.mig) now x e/\r=.tup [.agg (rsL x),.int .i64 e]/\H'=a1c v) :=
 (c6K X v L hv hL now).imp fun r H' ⟨x,e,h1,b,h2,h3,h4,h5⟩=>by
  subst h4
  have hlen:3<=H'.length:=by
   have h6:=congrArg List.length h5
   have h7:(a1c v).length=3:=rfl
   rw [h7,List.length_take] at h6
   omega
  refine ⟨_,_,⟨x,e,h1,rfl,rfl⟩,(a4Z (r':=.tup [.agg (rsL x),.int .i64 e]) fun m w u hu=>?_).trans (a0i 3 (Nat.le_refl 3) (a1N v) h5 hlen (a0a ⟨rfl,a6D x,trivial,trivial⟩ a0k))⟩
  by_cases he:e=0
  ·rw [h3 he] at hu;exact hu
  rw [h2 he] at hu
  rw [h1.zero he]
  exact a8w hu
end Go.Abs
