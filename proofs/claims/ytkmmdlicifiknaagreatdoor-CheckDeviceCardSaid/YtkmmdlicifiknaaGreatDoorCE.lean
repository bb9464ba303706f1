/- superblock.ReadLayout, plan.Decode's closure: the walks. Joined texts, each with what its own name promises; no condition beyond those stated. -/
import Derived.Test.YtkmmdlicifiknaaGreatDoorCD
import Derived.Test.YtkmmdlicifiknaaGreatDoorCC
import Derived.Test.YtkmmdlicifiknaaGreatDoorRows
import Derived.Test.YtkmmdlicifiknaaGreatDoorTie
import Derived.Test.YtkmmdlicifiknaaGreatDoorCards
import Derived.ProofKit
import Derived.LaidMore
import Derived.OpenShut
import Derived.Stop.Joined
import Derived.SevenTiedAt
set_option maxHeartbeats 0
set_option maxRecDepth 100000
set_option linter.unusedVariables false
set_option linter.unusedSimpArgs false
namespace Go.Abs
def a6V(bs:List UInt8)(s lo:Nat):Hp:=[some (.arr (bs.map u8A) 5),some (b4F bs s lo)]
theorem a2Y(g:Nat->Nat)(s t:Nat)(bs:List UInt8)(lo:Nat)(h:g s=t):a1T g (a6V bs s lo)=a6V bs t lo:=by
 simp [a1T,a6V,b4F,rnO,rnL,rnA,h,a1O (f:=u8A) (fun _=>rfl)]
theorem a4I(bs:List UInt8)(lo:Nat):∀j:Nat,(a2r bs lo)[j]?≠some none:=fun j=>by
 match j with
 | 0|1=>simp [a2r]
 | j+2=>simp [a2r]
theorem b3r(X:Nat->Prop)(bs:List UInt8)(lo w:Nat)(hw:1<=w)(hw8:w<=8)(h:lo+w<=bs.length)(hb:bs.length<=1000)(L R:Hp)(s:Nat)(hs:L.length=s) :
  a0b (E0 X) 146 [.ptr (1+s) 0,.int .i64 (w:Int)] (L++a6V bs s lo++R) (fun r H'=>r=.int .u64 (a0J ((bs.drop lo).take w):Int)/\H'=L++a6V bs s (lo+w)++R):=by
 subst hs
 have hm:∀lo,a1T (sh L.length R.length 2) (a2r bs lo)=a6V bs L.length lo:=fun lo=>a2Y _ 0 L.length bs lo (by simp [sh])
 refine a0b.conv (a0b.frameLR (E:=E0 X) (fun X=>b6H X bs lo w hw hw8 h hb) L R (a4I bs lo) ⟨by simp [a0d,a2r],trivial,trivial⟩ (a3N bs lo)) ?_ (by rw [show (a2r bs lo).length=2 from rfl,hm]) ?_
 ·simp [rnL,rnA,sh,a2r]
 rintro q H' ⟨r1,h',⟨rfl,rfl⟩,-,rfl,rfl⟩
 refine ⟨rfl,?_⟩
 show L++a1T (sh L.length R.length 2) (a2r bs (lo+w))++R++[]=_
 rw [hm,List.append_nil]
def a7R(bs:List UInt8)(lo:Nat):La :=
 ⟨(a0J ((bs.drop lo).take 4):Nat),(a0J ((bs.drop (lo+4)).take 1):Nat),if 0<a0J ((bs.drop lo).take 4) then ((2 ^ min (a0J ((bs.drop (lo+5)).take 1)) 30:Nat):Int) else 0,(a0J ((bs.drop (lo+6)).take 1):Nat)⟩
theorem a0U{bs:List UInt8}{lo w:Nat}(hw:w<=6):a0J ((bs.drop lo).take w)<=281474976710655:=by
 have h1:=a9s ((bs.drop lo).take w)
 have h2:((bs.drop lo).take w).length<=6:=by simp;omega
 have hp:256 ^ ((bs.drop lo).take w).length<=256 ^ 6:=Nat.pow_le_pow_right (by decide) h2
 have h7:(256:Nat) ^ 6=281474976710656:=by decide
 omega
theorem a3i{n:Nat}(h:n<=281474976710655):IntKind.i64.wrap (n:Int)=n:=a0r (by omega) (by omega)
attribute [local irreducible] a0z a1p AWp Nx awM
theorem c4P(X:Nat->Prop)(bs:List UInt8)(lo:Nat)(h:lo+7<=bs.length)(hb:bs.length<=1000) :
  a0b (E0 X) 152 [.ptr 1 0] (a2r bs lo) (fun r H'=>r=laA (a7R bs lo)/\H'=a2r bs (lo+7)):=by
 refine a0b.imp (R:=fun r H'=>r=laA (a7R bs lo)/\H'.take 2=a2r bs (lo+7)/\2<=H'.length) ?_ ?_
 ·refine a9Z Proofs.Tryz.func152 rfl Proofs.Tryz.ntmps152 (by kernel_rfl) rfl ?_
  intro hH hargs
  clear hH hargs
  have s1:=a0U (bs:=bs) (lo:=lo) (w:=4) (by decide)
  have s2:=a0U (bs:=bs) (lo:=lo+4) (w:=1) (by decide)
  have s3:=a0U (bs:=bs) (lo:=lo+5) (w:=1) (by decide)
  have s4:=a0U (bs:=bs) (lo:=lo+6) (w:=1) (by decide)
  have c1:=fun R=>b3r X bs lo 4 (by decide) (by decide) (by omega) hb [] R 0 rfl
  have c2:=fun R=>b3r X bs (lo+4) 1 (by decide) (by decide) (by omega) hb [] R 0 rfl
  have c3:=fun R=>b3r X bs (lo+5) 1 (by decide) (by decide) (by omega) hb [] R 0 rfl
  have c4:=fun R=>b3r X bs (lo+6) 1 (by decide) (by decide) (by omega) hb [] R 0 rfl
  simp only [a7R]
  generalize a0J ((bs.drop lo).take 4)=n1 at *
  generalize a0J ((bs.drop (lo+4)).take 1)=n2 at *
  generalize a0J ((bs.drop (lo+5)).take 1)=n3 at *
  generalize a0J ((bs.drop (lo+6)).take 1)=n4 at *
  repeat' (first|refine Zs rfl ?_|refine Zc rfl ?_|refine Qa rfl ?_)
  refine Cn rfl (c1 _) rfl rfl ?_
  repeat' (first|refine Zs rfl ?_|refine Qa rfl ?_)
  rw [a3i s1]
  refine Cn rfl (c2 _) rfl rfl ?_
  repeat' (first|refine Zs rfl ?_|refine Zc rfl ?_|refine Qa rfl ?_)
  rw [a3i s2]
  refine Cn rfl (c3 _) rfl rfl ?_
  repeat' (first|refine Zs rfl ?_|refine Zc rfl ?_|refine Qa rfl ?_)
  rw [a3i s3]
  refine Cn rfl (c4 _) rfl rfl ?_
  repeat' (first|refine Zs rfl ?_|refine Zc rfl ?_|refine Zh ?_|refine Qs ?_)
  rw [a3i s4]
  refine a0g rfl (fun h9=>?_) (fun h9=>?_)
  ·have h8:0<n1:=by omega
   have e1:(min (n3:Int) 30)=((min n3 30:Nat):Int):=by omega
   have e2:IntKind.i64.wrap (1*2 ^ (min (((min n3 30:Nat):Int)).toNat IntKind.i64.bits))=((2 ^ min n3 30:Nat):Int):=by
    have h7:min (((min n3 30:Nat):Int)).toNat IntKind.i64.bits=min n3 30:=by
     have:(((min n3 30:Nat):Int)).toNat=min n3 30:=by omega
     rw [this]
     have h1:IntKind.i64.bits=64:=rfl
     omega
    rw [h7,Int.one_mul]
    have h6:(2:Nat) ^ min n3 30<=2 ^ 30:=Nat.pow_le_pow_right (by decide) (by omega)
    have h5:(2:Nat) ^ 30=1073741824:=by decide
    have h3:(2:Int) ^ min n3 30=((2 ^ min n3 30:Nat):Int):=by simp
    rw [h3]
    generalize 2 ^ min n3 30=z at *
    exact a0r (by omega) (by omega)
   rw [if_pos h8]
   repeat' (first|refine Zs rfl ?_|refine Zc rfl ?_|refine Qa rfl ?_)
   rw [e1]
   refine a8M rfl rfl (by omega) ?_
   refine nx rfl rfl ?_
   rw [e2]
   repeat' (first|refine Zs rfl ?_|refine Zc rfl ?_|refine Zh ?_|refine Qs ?_)
   refine a0c ⟨_,rfl,rfl,rfl,?_⟩
   show 2<=4
   decide
  have h8:¬ 0<n1:=by omega
  rw [if_neg h8]
  repeat' (first|refine Zs rfl ?_|refine Zc rfl ?_|refine Zh ?_|refine Qs ?_)
  refine a0c ⟨_,rfl,rfl,rfl,?_⟩
  show 2<=4
  decide
 ·rintro r H' ⟨rfl,h2,h3⟩
  exact ⟨_,_,⟨rfl,rfl⟩,a0j 2 (Nat.le_refl _) (a3N _ _) h2 h3 (a0a ⟨rfl,a1g⟩ a0l)⟩
theorem c5D(X:Nat->Prop)(bs:List UInt8)(lo w:Nat)(hw:1<=w)(hw6:w<=6)(h:lo+w<=bs.length)(hb:bs.length<=1000) :
  a0b (E0 X) 153 [.int .i64 (w:Int),.fp [.ptr 1 0]] (a2r bs lo) (fun r H'=>r=.int .i64 (a0J ((bs.drop lo).take w):Int)/\H'=a2r bs (lo+w)):=by
 have s1:=a0U (bs:=bs) (lo:=lo) (w:=w) hw6
 have c1:=b6H X bs lo w hw (by omega) h hb
 generalize a0J ((bs.drop lo).take w)=n at *
 refine Z0 Proofs.Tryz.func153 rfl Proofs.Tryz.ntmps153 (by kernel_rfl) rfl ?_
 repeat' (first|refine Zs rfl ?_|refine Zc rfl ?_|refine Qa rfl ?_)
 refine Cn rfl (c1) rfl rfl ?_
 repeat' (first|refine Zs rfl ?_|refine Zh ?_|refine Qs ?_)
 refine a0c ⟨_,rfl,?_,?_⟩
 ·exact congrArg (AV.int .i64) (a3i s1)
 ·rfl
theorem b2M(X:Nat->Prop)(bs:List UInt8)(lo w:Nat)(hw:1<=w)(hw6:w<=6)(h:lo+w<=bs.length)(hb:bs.length<=1000)(L R:Hp)(s:Nat)(hs:L.length=s) :
  a0b (E0 X) 153 [.int .i64 (w:Int),.fp [.ptr (1+s) 0]] (L++a6V bs s lo++R) (fun r H'=>r=.int .i64 (a0J ((bs.drop lo).take w):Int)/\H'=L++a6V bs s (lo+w)++R):=by
 subst hs
 have hm:∀lo,a1T (sh L.length R.length 2) (a2r bs lo)=a6V bs L.length lo:=fun lo=>a2Y _ 0 L.length bs lo (by simp [sh])
 refine a0b.conv (a0b.frameLR (E:=E0 X) (fun X=>c5D X bs lo w hw hw6 h hb) L R (a4I bs lo) ⟨trivial,⟨by simp [a0d,a2r],trivial⟩,trivial⟩ (a3N bs lo)) ?_ (by rw [show (a2r bs lo).length=2 from rfl,hm]) ?_
 ·simp [rnL,rnA,sh,a2r]
 rintro q H' ⟨r1,h',⟨rfl,rfl⟩,-,rfl,rfl⟩
 refine ⟨rfl,?_⟩
 show L++a1T (sh L.length R.length 2) (a2r bs (lo+w))++R++[]=_
 rw [hm,List.append_nil]
theorem a9D(X:Nat->Prop)(bs:List UInt8)(lo:Nat)(h:lo+7<=bs.length)(hb:bs.length<=1000)(L R:Hp)(s:Nat)(hs:L.length=s) :
  a0b (E0 X) 152 [.ptr (1+s) 0] (L++a6V bs s lo++R) (fun r H'=>r=laA (a7R bs lo)/\H'=L++a6V bs s (lo+7)++R):=by
 subst hs
 have hm:∀lo,a1T (sh L.length R.length 2) (a2r bs lo)=a6V bs L.length lo:=fun lo=>a2Y _ 0 L.length bs lo (by simp [sh])
 refine a0b.conv (a0b.frameLR (E:=E0 X) (fun X=>c4P X bs lo h hb) L R (a4I bs lo) ⟨by simp [a0d,a2r],trivial⟩ (a3N bs lo)) ?_ (by rw [show (a2r bs lo).length=2 from rfl,hm]) ?_
 ·simp [rnL,rnA,sh,a2r]
 rintro q H' ⟨r1,h',⟨rfl,rfl⟩,-,rfl,rfl⟩
 refine ⟨rfl,?_⟩
 show L++a1T (sh L.length R.length 2) (a2r bs (lo+7))++R++[]=_
 rw [hm,List.append_nil]
theorem b9w(bs:List UInt8)(lo:Nat):a8m (a2r bs lo)=true:=by
 simp only [a8m,a2r,b4F,List.all_cons,List.all_nil,a8n,a6p,b9v,Bool.and_true,Bool.true_and,Bool.and_eq_true]
 exact a2v (fun _=>rfl) _
theorem a9r(X:Nat->Prop)(bs:List UInt8)(hb:bs.length<=1000)(H:Hp)(x:AV)(hx:a6O (E0 X) H 1 x=some (bs.map u8A)) :
  a0b (E0 X) 144 [x] H (fun r H'=>r=.ptr (1+H.length) 0/\H'=H++a6V bs H.length 0):=by
 refine (a1W (E:=E0 X) (P:=fun v H'=>v=.ptr 1 0/\H'=a2r bs 0) (fun X=>c4s X bs hb) (fun r h' h=>by
  obtain ⟨h1,h2⟩:=h;subst h1;subst h2;exact ⟨rfl,b9w _ _⟩) (Bor.sl (a1H _) hx .nil)).mono ?_
 rintro r H' ⟨r0,h',⟨rfl,rfl⟩,rfl,rfl⟩
 exact ⟨by simp [rnA],by rw [show a2r bs 0=a6V bs 0 0 from rfl,a2Y _ 0 H.length bs 0 (by simp)]⟩
def b6T(bs:List UInt8):Pl:=⟨(a0J ((bs.drop 0).take 1):Nat),(a0J ((bs.drop 1).take 4):Nat),(a0J ((bs.drop 5).take 1):Nat),(a0J ((bs.drop 6).take 6):Nat),a7R bs 12⟩
def c3s:Pl:=⟨0,0,0,0,⟨0,0,0,0⟩⟩
def c4w(o:Option Pl):AV:=match o with
 | some p=>.tup [plA p,.bool true]
 | none=>.tup [plA c3s,.bool false]
def b0o(p:Pl)(sector:Nat):Option (List UInt8):=if a1P p=true then some (b4p ⟨p.kind.toNat,p.mig.toNat,p.idx.toNat,p.tail.toNat,p.t⟩ sector) else none
def b1d(b:List UInt8)(sector:Nat):Option Pl:=match a2A 4 0 sector b with
 | none=>none
 | some pay=>if b0o (b6T pay) sector=some b then some (b6T pay) else none
theorem c4B(X:Nat->Prop)(p:Pl)(sector:Nat)(hs:sector<1048576) :
  a0b (E0 X) 154 [plA p,.int .i64 (sector:Int)] [] (fun r H'=>r=(match b0o p sector with|some e=>.tup [.sl 1 (e.map u8A),.int .i64 0]|none=>.tup [.nils,.int .i64 4])/\H'=[]):=by
 unfold b0o
 cases hv:a1P p with
 | false=>exact b6V X p sector hv
 | true =>
  obtain ⟨q,hq,-⟩:=a2F hv
  subst hq
  have:=c4A X q sector hv hs
  simpa [PlN.pl] using this
theorem a2e{k s n:Nat}{b p:List UInt8}(h:a2A k s n b=some p):p.length=59/\b.length=64:=by
 unfold a2A at h
 split at h
 ·rename_i h1
  simp only [Option.some.injEq] at h
  subst h
  simp;omega
 ·cases h
def pdH(o0:AO)(bs:List UInt8)(p:Pl):Hp:=[some o0,some (.arr (bs.map u8A) 5),some (b4F bs 1 19),some (.cells [.int .i64 p.kind,.int .i64 p.mig,.int .i64 p.idx,.int .i64 p.tail,.int .i64 p.t.id,.int .i64 p.t.ver,.int .i64 p.t.rs,.int .i64 p.t.regs] 89)]
def zO:AO:=.cells [.int .i64 0,.int .i64 0,.int .i64 0,.int .i64 0,.int .i64 0,.int .i64 0,.int .i64 0,.int .i64 0] 89
theorem c0J(bs:List UInt8)(p:Pl):HOk 4 (pdH zO bs p):=fun j o ho=>by
 match j,ho with
 | 0,ho=>cases ho;exact ⟨trivial,trivial,trivial,trivial,trivial,trivial,trivial,trivial,trivial⟩
 | 1,ho=>cases ho;exact a0h fun _=>a0k
 | 2,ho=>cases ho;exact ⟨by simp [a0d],trivial,trivial⟩
 | 3,ho=>cases ho;exact ⟨trivial,trivial,trivial,trivial,trivial,trivial,trivial,trivial,trivial⟩
theorem c1J(bs:List UInt8)(lo:Nat):HOk 3 [some zO,some (.arr (bs.map u8A) 5),some (b4F bs 1 lo)]:=fun j o ho=>by
 match j,ho with
 | 0,ho=>cases ho;exact ⟨trivial,trivial,trivial,trivial,trivial,trivial,trivial,trivial,trivial⟩
 | 1,ho=>cases ho;exact a0h fun _=>a0k
 | 2,ho=>cases ho;exact ⟨by simp [a0d],trivial,trivial⟩
theorem c4z(X:Nat->Prop)(b:List UInt8)(sector:Nat)(hs:sector<1048576)(hb:b.length<=1000) :
  a0b (E0 X) 111 [.sl 1 (b.map u8A),.int .i64 (sector:Int)] [] (fun r H'=>r=c4w (b1d b sector)/\H'=[]):=by
 refine a0b.cut0 ?_ (by unfold c4w;split<;>exact ⟨a3b,trivial,trivial⟩)
 have hdec:=fun X=>b2U X 4 0 sector b ⟨by decide,by decide,hs⟩ (by decide) (by omega)
 refine Z0 Proofs.Tryz.func111 rfl Proofs.Tryz.ntmps111 (by kernel_rfl) rfl ?_
 repeat' (first|refine Zs rfl ?_|refine Zc rfl ?_|refine Qa rfl ?_)
 refine Ck (fun _=>rfl) rfl (a0f (E:=E0 X) hdec (by simp [a0e,a0d]) _) ?_
 cases hd:a2A 4 0 sector b with
 | none =>
  have e:b1d b sector=none:=by simp only [b1d,hd]
  rw [e]
  show Nx _ (.tup [.nils,.bool false]) _
  refine nx rfl rfl ?_
  repeat' (first|refine Zs rfl ?_|refine Zc rfl ?_|refine Zh ?_|refine Qs ?_)
  exact a0c ⟨_,rfl,rfl⟩
 | some bs =>
  obtain ⟨hbl,-⟩:=a2e hd
  have e:b1d b sector=if b0o (b6T bs) sector=some b then some (b6T bs) else none:=by simp only [b1d,hd]
  rw [e]
  show Nx _ (.tup [.sl 1 (bs.map u8A),.bool true]) _
  refine nx rfl rfl ?_
  repeat' (first|refine Zs rfl ?_|refine Zc rfl ?_|refine Qa rfl ?_)
  refine Cn rfl (a9r X bs (by omega) _ _ rfl) rfl rfl ?_
  repeat' (first|((refine Qa rfl ?_);(refine QJ rfl rfl ?_);(refine QX rfl rfl ?_))|(refine Qb rfl ?_;try (refine QS rfl rfl rfl rfl rfl rfl rfl ?_;(refine QX rfl rfl ?_)))|refine Qh ?_)
  refine a2j ?_
  refine a0t (a0w (id:=3) (cs:=[.ptr 2 0]) rfl) ?_
  refine Kc [0,1,4,8] 3 (c1J bs 0) rfl rfl (by simp [a0d,a0e]) ?_
  have q1:=fun R=>b2M X bs 0 1 (by decide) (by decide) (by omega) (by omega) [some zO] R 1 rfl
  have q2:=fun R=>b2M X bs 1 4 (by decide) (by decide) (by omega) (by omega) [some zO] R 1 rfl
  have q3:=fun R=>b2M X bs 5 1 (by decide) (by decide) (by omega) (by omega) [some zO] R 1 rfl
  have q4:=fun R=>b2M X bs 6 6 (by decide) (by decide) (by omega) (by omega) [some zO] R 1 rfl
  have q5:=fun R=>a9D X bs 12 (by omega) (by omega) [some zO] R 1 rfl
  have hp:b6T bs=⟨(a0J ((bs.drop 0).take 1):Nat),(a0J ((bs.drop 1).take 4):Nat),(a0J ((bs.drop 5).take 1):Nat),(a0J ((bs.drop 6).take 6):Nat),a7R bs 12⟩:=rfl
  rw [hp]
  generalize a0J ((bs.drop 0).take 1)=n1 at *
  generalize a0J ((bs.drop 1).take 4)=n2 at *
  generalize a0J ((bs.drop 5).take 1)=n3 at *
  generalize a0J ((bs.drop 6).take 6)=n4 at *
  generalize a7R bs 12=la at *
  repeat' (first|refine Zs rfl ?_|refine Zc rfl ?_)
  refine a2T (s1:=⟨[(0,.sl 1 (b.map u8A)),(1,.int .i64 (sector:Int)),(4,.ptr 0 0),(10,.ptr 3 0)],pdH zO bs ⟨n1,n2,n3,n4,la⟩⟩) ?_ ?_
  rotate_left
  ·repeat' (first|refine Zs rfl ?_|refine Zc rfl ?_|refine Qa rfl ?_)
   refine Ck (fun _=>rfl) rfl (a0f (E:=E0 X) (fun X=>c4B X ⟨n1,n2,n3,n4,la⟩ sector hs) (by simp [a0e,a0d]) _) ?_
   cases he:b0o ⟨n1,n2,n3,n4,la⟩ sector with
   | none =>
    show Nx _ (.tup [.nils,.int .i64 4]) _
    refine nx rfl rfl ?_
    repeat' (first|refine Zs rfl ?_|refine Zc rfl ?_|refine Zh ?_|refine Qs ?_)
    refine a0c ⟨_,rfl,?_⟩
    rw [if_neg (by simp)];rfl
   | some eb =>
    show Nx _ (.tup [.sl 1 (eb.map u8A),.int .i64 0]) _
    refine nx rfl rfl ?_
    repeat' (first|refine Zs rfl ?_|refine Zc rfl ?_|refine Qa rfl ?_)
    refine Cn rfl (a0f (E:=E0 X) (fun X=>b5q X eb b) (by simp [a0e,a0d]) _) rfl rfl ?_
    repeat' (first|refine Zs rfl ?_|refine Zh ?_|refine Qs ?_)
    refine a0I rfl (fun h9=>?_) (fun h9=>?_)
    ·have h8:¬ eb=b:=by simpa using h9
     repeat' (first|refine Zs rfl ?_|refine Zc rfl ?_|refine Zh ?_|refine Qs ?_)
     refine a0c ⟨_,rfl,?_⟩
     rw [if_neg (by simpa using h8)];rfl
    have h8:eb=b:=by simpa using h9
    repeat' (first|refine Zs rfl ?_|refine Zc rfl ?_|refine Zh ?_|refine Qs ?_)
    refine a0c ⟨_,rfl,?_⟩
    rw [if_pos (by rw [h8])];rfl
  refine a0n [1,3,5,7,9,11,12] [0,2,4,6,8,10] (by exact rfl) ?_
  refine a0y (fuel:=8) [0,2,4,6,8] (by exact rfl) (by kernel_rfl) (by kernel_rfl) ?_
  repeat' (first|((apply Qe rfl rfl rfl rfl;intro H9);(first|refine Q0 ?_|refine Q3 rfl rfl rfl ?_);(exact QY rfl ⟨rfl,rfl⟩))|refine Qk ?_)
  refine b2z (fuel:=2) [1,3,5,7,9] 11 rfl rfl rfl rfl (by kernel_rfl) rfl ?_
  refine .cons rfl (fun Y=>a1c (fun _=>rfl) rfl (q1 Y)) rfl ?_
  refine .cons rfl (fun Y=>a1c (fun _=>rfl) rfl (q2 Y)) rfl ?_
  refine .cons rfl (fun Y=>a1c (fun _=>rfl) rfl (q3 Y)) rfl ?_
  refine .cons rfl (fun Y=>a1c (fun _=>rfl) rfl (q4 Y)) rfl ?_
  refine .cons rfl (fun Y=>a1c (fun _=>rfl) rfl (q5 Y)) rfl ?_
  refine .nil ⟨a0y (fuel:=0) [10,11,12] (by exact rfl) (by kernel_rfl) (by kernel_rfl) ?_,a0y (fuel:=0) [10,12] (by exact rfl) (by kernel_rfl) (by kernel_rfl) ?_⟩
  ·repeat' (first|((first|refine Qc rfl rfl rfl ?_|(apply Qe rfl rfl rfl rfl;intro H9));(first|refine QJ rfl rfl ?_|refine QP rfl rfl rfl rfl rfl rfl ?_);(first|exact QY rfl ⟨rfl,rfl⟩|refine QX rfl rfl ?_))|(refine Qf rfl rfl rfl ?_;refine QS rfl rfl rfl rfl rfl rfl rfl ?_;(refine QX rfl rfl ?_))|refine Qk ?_|refine Qw (by kernel_rfl) ?_)
   exact ⟨rfl,ik 4 (c0J bs ⟨n1,n2,n3,n4,la⟩) rfl rfl rfl rfl (by simp [a0e,a0d])⟩
  ·repeat' (first|((apply Qe rfl rfl rfl rfl;intro H9);(refine QP rfl rfl rfl rfl rfl rfl ?_);(exact QY rfl ⟨rfl,rfl⟩))|(refine Qf rfl rfl rfl ?_;refine QS rfl rfl rfl rfl rfl rfl rfl ?_;(refine QX rfl rfl ?_))|refine Qk ?_|refine Qw (by kernel_rfl) ?_)
   exact ⟨rfl,ik 4 (c0J bs ⟨n1,n2,n3,n4,la⟩) rfl rfl rfl rfl (by simp [a0e,a0d])⟩
def b5a(s:Nat)(v:Dv):Hp:=[some (.cells [.own (1+s) 0 v.image.length,.mp (2+s),.int .i64 v.writes,.int .i64 v.fuse,.bool v.dead] 112),some (.arr (v.image.map u8A) 5),some (.map (v.old.map b3s))]
theorem c2O{g:Nat->Nat}(p:Int × List UInt8):rnA g (b3s p).2=(b3s p).2:=by
 show AV.agg (rnL g (p.2.map u8A))=_
 rw [a1O (fun _=>rfl)];rfl
theorem b7w{g:Nat->Nat}(l:List (Int × List UInt8)):((rnL g ((l.map b3s).map (·.1))).zip (rnL g ((l.map b3s).map (·.2))))=l.map b3s:=by
 induction l with
 | nil=>rfl
 | cons p l ih =>
  simp only [List.map_cons,rnL,List.zip_cons_cons,ih]
  rw [c2O]
  rfl
theorem a2X(s q:Nat)(v:Dv):a1T (sh s q 3) (a0K v)=b5a s v:=by
 simp [a1T,a0K,b5a,rnO,rnL,rnA,sh,a1O (f:=u8A) (fun _=>rfl)]
 have:=b7w (g:=sh s q 3) v.old
 simpa using this
theorem a9J(v:Dv):∀j:Nat,(a0K v)[j]?≠some none:=fun j=>by
 match j with
 | 0=>simp [a0K]
 | 1=>simp [a0K]
 | 2=>simp [a0K]
 | j+3=>simp [a0K]
section
variable{X:Nat->Prop}{f:FuncId}{rest:List AV}{r0:AV}
theorem c3I{v v':Dv}(hc:∀X,a0b (E0 X) f (.ptr 0 0::rest) (a0K v) (fun r H'=>r=r0/\H'=a0K v'))(hrest:a0e 0 rest)(hr:a0d 0 r0)(L R:Hp)(s:Nat)(hs:L.length=s) :
  a0b (E0 X) f (.ptr s 0::rest) (L++b5a s v++R) (fun r H'=>r=r0/\H'=L++b5a s v'++R):=by
 subst hs
 refine a0b.conv (a0b.frameLR (E:=E0 X) hc L R (a9J v) ⟨by simp [a0d,a0K],a0F (Nat.zero_le _) hrest⟩ (a1n v)) ?_ (by rw [show (a0K v).length=3 from rfl,a2X]) ?_
 ·show _::rnL _ rest=_
  rw [a1r _ hrest];simp [rnA,sh,a0K]
 rintro r H' ⟨r1,h',⟨rfl,rfl⟩,-,rfl,rfl⟩
 refine ⟨a2h _ hr,?_⟩
 show L++a1T (sh L.length R.length 3) (a0K v')++R++[]=_
 rw [a2X,List.append_nil]
theorem a2U{v v':Dv}(hc:∀X,a0b (E0 X) f (.ptr 0 0::rest) (a0K v) (fun r H'=>r=r0/\H'=a0K v'))(hrest:a0e 0 rest)(hr:a0d 0 r0)(R:Hp) :
  a0b (E0 X) f (.ptr 0 0::rest) (a0K v++R) (fun r H'=>r=r0/\H'=a0K v'++R):=c3I hc hrest hr [] R 0 rfl
end
structure Dv.Inv(v:Dv):Prop where
 load:a6C v.image.length
 nd:(v.old.map (·.1)).Nodup
 sz:∀p∈v.old,p.2.length=64
 keys:∀p∈v.old,0<=p.1/\p.1*64+64<=v.image.length
 fuse:v.fuse<=9223372036854775807
theorem Dv.Inv.ok{v:Dv}(h:v.Inv):v.Ok:=⟨by have:=h.load.2.2;omega,h.nd,h.sz,h.fuse⟩
theorem c1t{X:Nat->Prop}{f:FuncId}{rest:List AV}{v:Dv}{P:AV->Hp->Prop}(hc:∀X,a0b (E0 X) f (.ptr 0 0::rest) (a0K v) P)(hrest:a0e 0 rest)(L R:Hp)(s:Nat)(hs:L.length=s) :
  a0b (E0 X) f (.ptr s 0::rest) (L++b5a s v++R) (fun r H'=>∃r1 h',P r1 h'/\r=rnA (sh s R.length 3) r1/\H'=L++a1T (sh s R.length 3) (h'.take 3)++R++a1T (sh s R.length 3) (h'.drop 3)):=by
 subst hs
 refine a0b.conv (a0b.frameLR (E:=E0 X) hc L R (a9J v) ⟨by simp [a0d,a0K],a0F (Nat.zero_le _) hrest⟩ (a1n v)) ?_ (by rw [show (a0K v).length=3 from rfl,a2X]) ?_
 ·show _::rnL _ rest=_
  rw [a1r _ hrest];simp [rnA,sh,a0K]
 ·rintro r H' ⟨r1,h',hp,-,rfl,rfl⟩
  exact ⟨r1,h',hp,rfl,rfl⟩
theorem c1Q{v:Dv}(h:v.Inv){k:Nat}{b:List UInt8}(hk:k*64+64<=v.image.length)(hb:b.length<=64):(v.put k b).Inv:=by
 have hl:(v.put k b).image.length=v.image.length:=by simp [Dv.put];omega
 by_cases hm:(k:Int)∈v.old.map (·.1)
 ·have e:(v.put k b).old=v.old:=by simp only [Dv.put,if_pos hm]
  exact ⟨by rw [hl];exact h.load,by rw [e];exact h.nd,by rw [e];exact h.sz,by rw [e,hl];exact h.keys,h.fuse⟩
 have e:(v.put k b).old=v.old++[((k:Int),v.sector k)]:=by simp only [Dv.put,if_neg hm]
 refine ⟨by rw [hl];exact h.load,?_,?_,?_,h.fuse⟩
 ·rw [e,List.map_append,List.nodup_append]
  refine ⟨h.nd,by simp,fun a ha b hb e=>?_⟩
  simp at hb
  subst hb;subst e
  exact hm ha
 ·rw [e]
  intro p hp
  rcases List.mem_append.1 hp with hp|hp
  ·exact h.sz p hp
  ·simp at hp;subst hp;simp [Dv.sector];omega
 rw [e,hl]
 intro p hp
 rcases List.mem_append.1 hp with hp|hp
 ·exact h.keys p hp
 ·simp at hp;subst hp;simp only;omega
theorem a3K{v:Dv}(h:v.Inv)(i:Int):v.check i=if v.dead=true then 1 else if i<0\/((v.image.length / 64:Nat):Int)<=i then 2 else 0:=by
 unfold Dv.check Dv.n
 rw [b6t (by have:=h.load.2.2;omega)]
theorem a5t{v:Dv}(h:v.Inv){i:Int}(hc:v.check i=0):v.dead=false/\∃k:Nat,i=k/\k*64+64<=v.image.length:=by
 refine ⟨?_,a6e (by have:=h.load.2.2;omega) hc⟩
 rw [a3K h] at hc
 split at hc
 ·omega
 ·rename_i hd;simpa using hd
theorem b6n{img:List UInt8}(h:a6C img.length):(Dv.fresh img).Inv:=⟨h,by simp [Dv.fresh],by simp [Dv.fresh],by simp [Dv.fresh],by simp [Dv.fresh]⟩
theorem c2z{v:Dv}{k:Nat}{b:List UInt8}(hk:k*64+64<=v.image.length)(hb:b.length<=64):(v.put k b).image.length=v.image.length:=by simp [Dv.put];omega
theorem c0r{v:Dv}(h:v.Inv)(hd:v.dead=false)(hf:v.fuse=-1){k:Nat}{b:List UInt8}(hk:k*64+64<=v.image.length)(hb:b.length<=64):v.write (k:Int) b=(0,v.put k b):=by
 have hc:v.check (k:Int)=0:=by
  rw [a3K h,hd]
  simp only [Bool.false_eq_true,if_false]
  rw [if_neg (by omega)]
 have hbn:v.burn=v:=by
  obtain ⟨a,b,c,d,e⟩:=v
  simp only at hd hf
  subst hd;subst hf
  simp [Dv.burn]
 unfold Dv.write
 rw [if_neg (by rw [hc];simp),if_neg (by omega),hbn,if_neg (by rw [hd];simp)]
 rfl
theorem b4h{v:Dv}(hd:v.dead=false)(hf:v.fuse=-1):v.barrier=(0,{ v with old:=[] }):=by
 have hbn:v.burn=v:=by
  obtain ⟨a,b,c,d,e⟩:=v
  simp only at hd hf
  subst hd;subst hf
  simp [Dv.burn]
 unfold Dv.barrier
 rw [hbn];simp [hd]
theorem a6t(X:Nat->Prop)(v:Dv)(i:Int)(hl:v.image.length<=1073741824)(L R:Hp)(s:Nat)(hs:L.length=s) :
  a0b (E0 X) 105 [.ptr s 0,.int .i64 i] (L++b5a s v++R) (fun r H'=>(v.check i≠0/\r=.tup [.nils,.int .i64 (v.check i)]/\H'=L++b5a s v++R) \/
   (v.check i=0/\r=.tup [.own (3+s+R.length) 0 64,.int .i64 0]/\H'=L++b5a s v++R++[some (.arr (((v.image.drop (i.toNat*64)).take 64).map u8A) 5)])):=by
 refine (c1t (fun X=>c4H X v i hl) ⟨trivial,trivial⟩ L R s hs).mono ?_
 rintro r H' ⟨r1,h',h,rfl,rfl⟩
 rcases h with ⟨h1,rfl,rfl⟩|⟨h1,rfl,rfl⟩
 ·refine .inl ⟨h1,rfl,?_⟩
  show L++a1T (sh s R.length 3) (a0K v)++R++[]=_
  rw [a2X,List.append_nil]
 refine .inr ⟨h1,by simp [rnA,rnL,sh],?_⟩
 show L++a1T (sh s R.length 3) (a0K v)++R++[some (.arr (rnL _ (List.map u8A _)) _)]=_
 rw [a2X,a1O (fun _=>rfl)]
structure Lv(L:Nat)(v:Dv):Prop where
 inv:v.Inv
 dead:v.dead=false
 fuse:v.fuse=-1
 len:v.image.length=L
theorem Lv.write{L k:Nat}{v:Dv}(h:Lv L v)(hk:k*64+64<=L){b:List UInt8}(hb:b.length<=64):v.write (k:Int) b=(0,v.put k b):=c0r h.inv h.dead h.fuse (by rw [h.len];exact hk) hb
theorem Lv.put{L k:Nat}{v:Dv}(h:Lv L v)(hk:k*64+64<=L){b:List UInt8}(hb:b.length<=64):Lv L (v.put k b) :=
 ⟨c1Q h.inv (by rw [h.len];exact hk) hb,h.dead,h.fuse,by rw [c2z (by rw [h.len];exact hk) hb];exact h.len⟩
theorem Lv.bar{L:Nat}{v:Dv}(h:Lv L v):v.barrier=(0,{ v with old:=[] }):=b4h h.dead h.fuse
theorem Lv.clean{L:Nat}{v:Dv}(h:Lv L v):Lv L { v with old:=[] }:=⟨⟨h.inv.load,by simp,by simp,by simp,h.inv.fuse⟩,h.dead,h.fuse,h.len⟩
theorem a8W{v:Dv}(h:v.Inv)(hd:v.dead=false){k:Nat}(hk:k*64+64<=v.image.length):v.check (k:Int)=0:=by
 rw [a3K h,hd]
 simp only [Bool.false_eq_true,if_false]
 rw [if_neg (by omega)]
def b4N(p:PlN):Nat:=2+(p.mig+1)%2*36+p.idx
theorem c5c{p:PlN}(h1:1<=p.mig)(h2:p.idx<=35):a6W p.mig p.idx=(b4N p:Int):=by
 unfold a6W b4N
 rw [if_neg (by omega)]
 omega
def a1F(v:Dv)(mig:Int)(i:Nat):Option Pl :=
 if v.check (a6W mig i)≠0 then none else match b1d ((v.image.drop ((a6W mig i).toNat*64)).take 64) (a6W mig i).toNat with
  | none=>none
  | some p=>if p.mig=mig/\p.idx=(i:Int) then some p else none
def a5g(v:Dv)(mig:Int):Nat->Nat->List Pl
 | _,0=>[]
 | i,n+1=>match a1F v mig i with
  | none=>[]
  | some p=>p::a5g v mig (i+1) n
def a7k(v:Dv)(mig:Int):List Pl:=a5g v mig 0 36
theorem b3u(l:List Pl):a2R (l.map plA):=fun y hy=>by
 obtain ⟨b,_,rfl⟩:=List.mem_map.1 hy;exact ⟨rfl,rfl⟩
theorem b7O(o:Option Pl):scal (c4w o)=true:=by
 cases o<;>rfl
theorem a0b.frzD{E:Env}{f:FuncId}{args:List AV}{es:List AV}{e:TypeId}{v:Dv}(k:Nat)(h:a0b E f args (a0K v) (fun r H'=>∃id n,r=.own id 0 n/\n=es.length/\3<=id/\H'[id]?=some (some (.arr es e))/\H'.take 3=a0K v))(he:Nat.blt e E.n=true)(hk:Nat.beq (E.ti e).sz k=true)(hes:a0e 0 es) :
  a0b E f args (a0K v) (fun r H'=>r=.sl k es/\H'=a0K v) :=
 h.imp fun r H' ⟨id,n,h1,h2,h3,h4,h5⟩=>by
  subst h1;subst h2
  have hlt:id<H'.length:=(List.getElem?_eq_some_iff.1 h4).1
  refine ⟨_,_,⟨rfl,rfl⟩,?_⟩
  refine (a0N (id:=id) (k:=k) (es:=es) (e:=e) h4 he hk).trans ?_
  refine a0j 3 (Nat.le_refl _) (a1n v) ?_ (by simp;omega) ?_
  ·show (H'.set id none).take 3=a0K v
   rw [<- h5]
   apply List.ext_getElem?
   intro j
   simp only [List.getElem?_take,List.getElem?_set]
   split
   ·rw [if_neg (by omega)]
   ·rfl
  refine a0a ⟨?_,a0F (Nat.zero_le _) hes⟩ a0l
  simp [a0R,frz]
theorem c4c(v:Dv)(l:List Pl):HOk 4 (a0K v++[some (.arr (l.map plA) 89)]):=fun j o ho=>by
 match j,ho with
 | 0,ho=>cases ho;exact ⟨by simp [a0d],by simp [a0d],trivial,trivial,trivial,trivial⟩
 | 1,ho=>cases ho;exact a0h fun _=>a0k
 | 2,ho=>cases ho;exact ⟨by rw [List.map_map];exact a0h fun _=>trivial,by rw [List.map_map];exact a0h fun p=>(a0h (f:=u8A) fun _=>a0k:a0e _ (p.2.map u8A))⟩
 | 3,ho=>cases ho;exact a0h fun _=>a3b
theorem b9P(X:Nat->Prop)(v:Dv)(hv:v.Inv)(mig:Int)(hm:mig<=9223372036854775807) :
  a0b (E0 X) 61 [.ptr 0 0,.int .i64 mig] (a0K v) (fun r H'=>r=.sl 8 ((a7k v mig).map plA)/\H'=a0K v):=by
 have hlv:v.image.length<=1073741824:=by have:=hv.load.2.2;omega
 refine a0b.frzD (e:=89) 8 ?_ rfl rfl (a0h fun _=>a3b)
 refine Z0 Proofs.Tryz.func61 rfl Proofs.Tryz.ntmps61 (by kernel_rfl) rfl ?_
 repeat' (first|refine Zs rfl ?_|refine Zc rfl ?_)
 refine a0s (fun p:Nat × List Pl=>⟨[(0,.ptr 0 0),(1,.int .i64 mig),(5,.own 3 0 p.2.length),(12,.int .i64 (p.1:Int))],a0K v++[some (.arr (p.2.map plA) 89)]⟩)
  (fun p=>p.1<=36/\p.2.length<=p.1/\p.2++a5g v mig p.1 (36 - p.1)=a7k v mig) (fun p=>36 - p.1) (0,[]) ⟨by omega,by simp,rfl⟩ ?_ ?_
 ·exact Imp.trans (imp_nil 5 89 rfl) (kk 4 (c4c v []) rfl (by simp [a0d,a0e]))
 rintro ⟨i,out⟩ ⟨hi,hol,hr⟩
 have hi:i<=36:=hi
 have hol:out.length<=i:=hol
 have hr:out++a5g v mig i (36 - i)=a7k v mig:=hr
 show AWp _ _ _ _ _ ⟨[(0,.ptr 0 0),(1,.int .i64 mig),(5,.own 3 0 out.length),(12,.int .i64 (i:Int))],a0K v++[some (.arr (out.map plA) 89)]⟩
 have hsc:=fun X=>c0a X mig i hm
 repeat' (first|refine Zs rfl ?_|refine Zc rfl ?_)
 refine a0g rfl (fun h3=>?_) (fun h3=>?_)
 ·have hi3:i<36:=by omega
  have hrn:a5g v mig i (36 - i)=match a1F v mig i with
   | none=>[]
   | some p=>p::a5g v mig (i+1) (36 - (i+1)):=by
   have:36 - i=(36 - (i+1))+1:=by omega
   rw [this];rfl
  repeat' (first|refine Zs rfl ?_|refine Zc rfl ?_|refine Qa rfl ?_)
  refine Cn rfl (a0f (E:=E0 X) (fun X=>hsc X) (by simp [a0e,a0d]) _) rfl rfl ?_
  repeat' (first|refine Zs rfl ?_|refine Zc rfl ?_|refine Qa rfl ?_)
  by_cases hc:v.check (a6W mig i)=0
  ·obtain ⟨-,k,hk,hk2⟩:=a5t hv hc
   have hk20:k<1048576:=by have:=hv.load.2.2;omega
   have hst:a1F v mig i=match b1d ((v.image.drop (k*64)).take 64) k with
    | none=>none
    | some p=>if p.mig=mig/\p.idx=(i:Int) then some p else none:=by
    simp only [a1F]
    rw [if_neg (by simp [hc]),hk,Int.toNat_natCast]
   have hbl:((v.image.drop (k*64)).take 64).length=64:=by simp;omega
   have hrd:=a6t X v (a6W mig i) hlv [] [some (.arr (out.map plA) 89)] 0 rfl
   rw [hk,Int.toNat_natCast] at hrd
   rw [hk] at hc
   rw [hk]
   generalize (v.image.drop (k*64)).take 64=bb at *
   refine a1c (fun _=>rfl) rfl ?_
   refine a0b.mono hrd ?_
   rintro r H' (⟨hc2,-,-⟩|⟨-,rfl,rfl⟩)
   ·exact absurd hc hc2
   refine nx rfl rfl ?_
   repeat' (first|refine Zs rfl ?_|refine Zc rfl ?_|refine Qa rfl ?_)
   refine Ck (fun _=>rfl) rfl (a2K (E:=E0 X) (fun X=>c4z X bb k hk20 (by omega)) (b7O _) (Bor.sl (a1H _) (a0B rfl rfl rfl (by omega) (by rw [List.drop_zero,List.take_of_length_le (by omega)])) (Bor.same trivial .nil))) ?_
   cases hd:b1d bb k with
   | none =>
    rw [hd] at hst
    rw [hst] at hrn
    rw [hrn,List.append_nil] at hr
    show Nx _ (.tup [plA c3s,.bool false]) _
    refine nx rfl rfl ?_
    repeat' (first|refine Zs rfl ?_|refine Zc rfl ?_|refine Zh ?_|refine Qs ?_)
    refine a0c ⟨_,rfl,3,_,rfl,?_,Nat.le_refl _,?_,rfl⟩
    ·rw [<- hr,List.length_map]
    ·rw [<- hr];rfl
   | some p =>
    rw [hd] at hst
    show Nx _ (.tup [plA p,.bool true]) _
    refine nx rfl rfl ?_
    repeat' (first|refine Zs rfl ?_|refine Zc rfl ?_|refine Zh ?_|refine Qs ?_|((fail_if_success refine QV rfl ?_);refine Qy rfl rfl (fun _=>?_) (fun _=>?_)))
    ·rename_i h5
     have h6:a1F v mig i=none:=by rw [hst];exact if_neg fun h=>h5 h.1
     rw [h6] at hrn
     rw [hrn,List.append_nil] at hr
     refine a0c ⟨_,rfl,3,_,rfl,?_,Nat.le_refl _,?_,rfl⟩
     ·rw [<- hr,List.length_map]
     ·rw [<- hr];rfl
    rename_i h5
    refine a0g rfl (fun h7=>?_) (fun h7=>?_)
    ·have h6:a1F v mig i=none:=by rw [hst];exact if_neg fun h=>h7 h.2
     rw [h6] at hrn
     rw [hrn,List.append_nil] at hr
     repeat' (first|refine Zs rfl ?_|refine Zc rfl ?_|refine Zh ?_|refine Qs ?_)
     refine a0c ⟨_,rfl,3,_,rfl,?_,Nat.le_refl _,?_,rfl⟩
     ·rw [<- hr,List.length_map]
     ·rw [<- hr];rfl
    have h8:p.mig=mig:=Decidable.not_not.1 h5
    have h9:p.idx=(i:Int):=Decidable.not_not.1 h7
    have h6:a1F v mig i=some p:=by rw [hst];exact if_pos ⟨h8,h9⟩
    rw [h6] at hrn
    rw [hrn] at hr
    repeat' (first|refine Zs rfl ?_|refine Zc rfl ?_|refine Qa rfl ?_)
    refine a0V (oid:=some 3) (es:=out.map plA) (out:=(out++[p]).map plA) (n:=out.length+1) (a0M rfl (List.length_map _).symm) (rfl) (b3u [p]) (by rw [List.map_append];rfl) (by rw [List.length_map];rfl) (by show _<=9223372036854775807;omega) (by show _*64<=_;omega) rfl rfl rfl rfl rfl rfl rfl rfl ?_
    refine nx rfl rfl ?_
    repeat' (first|refine Zs rfl ?_|refine Zc rfl ?_|refine Zh ?_|refine Qs ?_)
    refine ⟨(i+1,out++[p]),⟨by show i+1<=36;omega,by simp;omega,by show (out++[p])++_=_;rw [<- hr];simp⟩,by show 36 - (i+1)<36 - i;omega,?_⟩
    refine a0S 3 [6] (H':=a0K v++[some (.arr ((out++[p]).map plA) 89)]) (os:=[.arr ((out++[p]).map plA) 89]) (Nat.le_refl _) ?_ ?_ ?_ ?_ rfl ?_ ?_ ?_
    ·simp [a0K]
    ·simp
    ·simp
    ·exact a1n v
    ·rfl
    ·refine a0a (a0v rfl (by simp [a0d])) (a0a (a0v rfl trivial) (a0a ?_ (a0a (a0v ?_ trivial) a0l)))
     ·rw [List.length_append];exact a0L rfl
     ·exact congrArg (AV.int .i64) (a0x (by omega) (by omega) (by omega))
    ·exact a0E rfl (a0A 3 a2m (a0h fun _=>a3b)) a0T
  have hst:a1F v mig i=none:=by simp only [a1F];rw [if_pos hc]
  rw [hst] at hrn
  rw [hrn,List.append_nil] at hr
  refine a1c (fun _=>rfl) rfl ?_
  refine a0b.mono (a6t X v (a6W mig i) hlv [] [some (.arr (out.map plA) 89)] 0 rfl) ?_
  rintro r H' (⟨-,rfl,rfl⟩|⟨hc2,-,-⟩)
  rotate_left
  ·exact absurd hc2 hc
  refine nx rfl rfl ?_
  repeat' (first|refine Zs rfl ?_|refine Zc rfl ?_|refine Zh ?_|refine Qs ?_)
  refine a0g rfl (fun h4=>?_) (fun h4=>?_)
  ·repeat' (first|refine Zs rfl ?_|refine Zc rfl ?_|refine Zh ?_|refine Qs ?_)
   refine a0c ⟨_,rfl,3,_,rfl,?_,Nat.le_refl _,?_,rfl⟩
   ·rw [<- hr,List.length_map]
   ·rw [<- hr];rfl
  ·exact absurd (by omega) hc
 have hi3:i=36:=by omega
 subst hi3
 have hr2:out=a7k v mig:=by rw [<- hr];simp [a5g]
 repeat' (first|refine Zs rfl ?_|refine Zc rfl ?_|refine Zh ?_|refine Qs ?_)
 refine a0c ⟨_,rfl,3,_,rfl,?_,Nat.le_refl _,?_,rfl⟩
 ·rw [<- hr2,List.length_map]
 ·rw [<- hr2];rfl
theorem a4B(n s:Nat):(a0i n s).toNat=n / 2 ^ s%256:=by
 unfold a0i
 rw [UInt8.toNat_ofNat'];omega
theorem c0S{n:Nat}(h:n<=4294967295):a0J [a0i n 24,a0i n 16,a0i n 8,a0i n 0]=n:=by
 simp only [a0J,List.foldl_cons,List.foldl_nil,a4B]
 have e1:(2:Nat) ^ 24=16777216:=by decide
 have e2:(2:Nat) ^ 16=65536:=by decide
 have e3:(2:Nat) ^ 8=256:=by decide
 rw [e1,e2,e3]
 omega
theorem c4t{n:Nat}(h:n<=281474976710655):a0J [a0i n 40,a0i n 32,a0i n 24,a0i n 16,a0i n 8,a0i n 0]=n:=by
 simp only [a0J,List.foldl_cons,List.foldl_nil,a4B]
 have e1:(2:Nat) ^ 24=16777216:=by decide
 have e2:(2:Nat) ^ 16=65536:=by decide
 have e3:(2:Nat) ^ 8=256:=by decide
 have e4:(2:Nat) ^ 32=4294967296:=by decide
 have e5:(2:Nat) ^ 40=1099511627776:=by decide
 rw [e1,e2,e3,e4,e5]
 omega
theorem b5c{n:Nat}(h:n<=255):a0J [UInt8.ofNat (n%256)]=n:=by
 simp only [a0J,List.foldl_cons,List.foldl_nil]
 rw [UInt8.toNat_ofNat'];omega
theorem b2g{rs:Int}(h:2<=rs/\rs<=2048)(h2:a2H .and .i64 rs (IntKind.i64.wrap (rs - 1))=0):((2 ^ min ((a4P rs.toNat - 1)%256) 30:Nat):Int)=rs/\a4P rs.toNat - 1<=255:=by
 have h1:((List.range 2049).all fun n=>!(decide (2<=n)) || (!(decide (a2H .and .i64 (n:Int) (IntKind.i64.wrap ((n:Int) - 1))=0)) || (decide (2 ^ min ((a4P n - 1)%256) 30=n)&&decide (a4P n - 1<=255))))=true:=by kernel_rfl
 obtain ⟨n,rfl⟩:=Int.eq_ofNat_of_zero_le (show 0<=rs by omega)
 have h3:=List.all_eq_true.1 h1 n (by simp;omega)
 have h4:decide (2<=n)=true:=by simp;omega
 rw [h4,decide_eq_true h2] at h3
 simp only [Bool.not_true,Bool.false_or,Bool.and_eq_true,decide_eq_true_eq] at h3
 exact ⟨by simp only [Int.toNat_natCast];rw [h3.1],h3.2⟩
def c6B(p:PlN):List UInt8:=[UInt8.ofNat (p.kind%256),a0i p.mig 24,a0i p.mig 16,a0i p.mig 8,a0i p.mig 0,UInt8.ofNat (p.idx%256),a0i p.tail 40,a0i p.tail 32,a0i p.tail 24,a0i p.tail 16,a0i p.tail 8,a0i p.tail 0,
 a0i p.t.id.toNat 24,a0i p.t.id.toNat 16,a0i p.t.id.toNat 8,a0i p.t.id.toNat 0,UInt8.ofNat (p.t.ver.toNat%256),UInt8.ofNat ((a4P p.t.rs.toNat - 1)%256),UInt8.ofNat (p.t.regs.toNat%256)]
theorem b6U(p:PlN):b1T p=c6B p:=rfl
theorem b9B{p:PlN}(hv:a1P p.pl=true)(z:List UInt8):b6T (b1T p++z)=p.pl:=by
 obtain ⟨q,hq,hk,hm,hi,ht,hf⟩:=a2F hv
 have hpq:p=q:=by
  obtain ⟨a,b,c,d,e⟩:=p
  obtain ⟨a2,b2,c2,d2,e2⟩:=q
  simp only [PlN.pl,Pl.mk.injEq] at hq
  obtain ⟨h1,h2,h3,h4,h5⟩:=hq
  simp only [PlN.mk.injEq]
  exact ⟨by omega,by omega,by omega,by omega,h5⟩
 subst hpq
 obtain ⟨kind,mig,idx,tail,id,ver,rs,regs⟩:=p
 simp only at hk hm hi ht hf
 simp only [a1a,Bool.and_eq_true,Bool.or_eq_true,decide_eq_true_eq] at hf
 obtain ⟨f1,f2,f3,f4,f5,f6,f7,f8⟩:=hf
 have hrs:=b2g ⟨f4,f5⟩ f6
 have e1:(b6T (b1T ⟨kind,mig,idx,tail,⟨id,ver,rs,regs⟩⟩++z))=⟨((a0J [UInt8.ofNat (kind%256)]:Nat):Int),((a0J [a0i mig 24,a0i mig 16,a0i mig 8,a0i mig 0]:Nat):Int),((a0J [UInt8.ofNat (idx%256)]:Nat):Int),
   ((a0J [a0i tail 40,a0i tail 32,a0i tail 24,a0i tail 16,a0i tail 8,a0i tail 0]:Nat):Int),
   ⟨((a0J [a0i id.toNat 24,a0i id.toNat 16,a0i id.toNat 8,a0i id.toNat 0]:Nat):Int),((a0J [UInt8.ofNat (ver.toNat%256)]:Nat):Int),
    if 0<a0J [a0i id.toNat 24,a0i id.toNat 16,a0i id.toNat 8,a0i id.toNat 0] then ((2 ^ min (a0J [UInt8.ofNat ((a4P rs.toNat - 1)%256)]) 30:Nat):Int) else 0,((a0J [UInt8.ofNat (regs.toNat%256)]:Nat):Int)⟩⟩:=by
  rw [b6U];rfl
 rw [e1,b5c (by omega),c0S (by omega),b5c (by omega),c4t (by omega),c0S (by omega),b5c (by omega),b5c hrs.2,b5c (by omega)]
 have h9:0<id.toNat:=by omega
 rw [if_pos h9]
 have h10:a4P rs.toNat - 1=(a4P rs.toNat - 1)%256:=by have:=hrs.2;omega
 rw [h10,hrs.1]
 simp only [PlN.pl,Pl.mk.injEq,La.mk.injEq]
 exact ⟨trivial,trivial,trivial,trivial,by omega,by omega,trivial,by omega⟩
theorem c1E{k:Nat}{p:List UInt8}(h:p.length<=59):frB k (p++List.replicate (59 - p.length) 0)=frB k p:=by
 have:(p++List.replicate (59 - p.length) (0:UInt8)).length=59:=by simp;omega
 simp only [frB,this,Nat.sub_self,List.replicate_zero,List.append_nil]
theorem a5u{k s n:Nat}{p:List UInt8}(h:p.length<=59):a2A k s n (a3C k s n p)=some (p++List.replicate (59 - p.length) 0):=by
 have hp:((a3C k s n p).drop 1).take 59=p++List.replicate (59 - p.length) 0:=by
  have e:a3C k s n p=UInt8.ofNat (k%256)::((p++List.replicate (59 - p.length) 0)++a9x (c3S s n (frB k p)) 4 4):=rfl
  rw [e]
  simp only [List.drop_succ_cons,List.drop_zero]
  exact List.take_left' (by simp;omega)
 have he:a3C k s n (p++List.replicate (59 - p.length) 0)=a3C k s n p:=by simp only [a3C,c1E h]
 unfold a2A
 rw [hp,he,if_pos ⟨a2M h,rfl⟩]
theorem c3d{v:Dv}{k j:Nat}{b:List UInt8}(hk:k*64+64<=v.image.length)(hb:b.length=64)(hj:j*64+64<=v.image.length) :
  ((v.put k b).image.drop (j*64)).take 64=if j=k then b else (v.image.drop (j*64)).take 64:=by
 have e:(v.put k b).image=v.image.take (k*64)++b++v.image.drop (k*64+64):=by
  simp [Dv.put,hb]
 rw [e]
 apply List.ext_getElem?
 intro i
 rw [List.getElem?_take]
 by_cases hi:i<64
 ·rw [if_pos hi,List.getElem?_drop]
  by_cases hjk:j=k
  ·subst hjk
   rw [if_pos rfl,List.append_assoc,List.getElem?_append_right (by simp;omega),List.getElem?_append_left (by simp;omega)]
   congr 1
   simp;omega
  rw [if_neg hjk,List.getElem?_take,if_pos hi,List.getElem?_drop]
  rcases Nat.lt_or_ge j k with h1|h1
  ·rw [List.append_assoc,List.getElem?_append_left (by simp;omega),List.getElem?_take,if_pos (by omega)]
  rw [List.getElem?_append_right (by simp;omega),List.getElem?_drop]
  congr 1
  simp;omega
 rw [if_neg hi]
 split
 ·rw [List.getElem?_eq_none (by omega)]
 ·rw [List.getElem?_take,if_neg hi]
open Go.RowKit Go.ChangeShapes Go.WideShapes
theorem own0:ownKnob Proofs.Tryz.prog.godebug=none:=by kernel_rfl
theorem c6e:Proofs.Tryz.prog.globalNamed "flashcache/crc.table"=some 0:=by kernel_rfl
theorem c6H:(Proofs.Tryz.prog.globals[0]?).map (·.type)=some 311:=by kernel_rfl
theorem c7t:Proofs.Tryz.prog.underlying 311=some (.array 16 213):=by kernel_rfl
theorem c7s:Proofs.Tryz.prog.underlying 213=some (.int .u32):=by kernel_rfl
theorem b1q{W:World}(h:laidMetH Proofs.Tryz.prog [("flashcache/crc.table",Proofs.YtkmmdlicifiknaaGreatDoor.Rows.laid_flashcache_crc_table)] W):∀i,i<16 → W.cell? ⟨0,i,none⟩=some (.int .u32 (b1b i:Int)):=by
 rw [MakeChecks.laidMetH_plain _ _ _ (by kernel_rfl)] at h
 obtain ⟨ps,⟨g0,t0,cs0,f0,p0,q0,hg0,ht0,hv0,hd0,_,_⟩,_,_⟩:=h
 obtain rfl:=Option.some.inj (c6e.symm.trans hg0)
 obtain rfl:=Option.some.inj (c6H.symm.trans ht0)
 obtain ⟨xs,m1,rfl,hx1,hlen,hn3,hel⟩:=DataW.trod_array c7t hd0
 have c170:Proofs.Tryz.prog.cellsOf 213=1:=by kernel_rfl
 intro i hi
 have h0:=hel i hi
 rw [c170] at h0
 obtain ⟨x,hx⟩:∃x,xs[i]?=some x:=⟨_,List.getElem?_eq_getElem (by omega)⟩
 rw [hx] at h0
 obtain ⟨k,e1,e2,_⟩:=DataW.trod_int c7s h0
 have hD:(Proofs.YtkmmdlicifiknaaGreatDoor.Rows.laid_flashcache_crc_table:DataW Unit)=.agg (a3U.map fun (n:Nat)=>DataW.lit (.int .u32 (n:Int))):=rfl
 rw [hD] at hx1
 simp only [Prod.mk.injEq,DataW.agg.injEq] at hx1
 have h3:=congrArg (fun l=>l[i]?) hx1.1
 simp only [List.getElem?_map,hx,Option.map_some] at h3
 have h4:a3U.length=16:=rfl
 obtain ⟨n,hn⟩:∃n,a3U[i]?=some n:=⟨_,List.getElem?_eq_getElem (by omega)⟩
 rw [hn] at h3
 have hk:(n:Int)=k:=by
  rw [e2] at h3
  simpa using h3
 have hT:b1b i=n:=by simp [b1b,hn]
 have hc:=World.var?_cell c6e hv0 i
 rw [hc,hT,hk]
 have h5:(cs0.toList.drop (i*1)).take 1=[.int .u32 k]:=e1
 have h6:=congrArg (fun l=>l[0]?) h5
 rw [Nat.mul_one] at h6
 simpa using h6
theorem b3G{sz:Cx}{m:Mu}{w:World}:∀l:List Nat,RelL sz m w (l.map b0Y) (l.map fun (b:Nat)=>Value.int .u32 (b:Int))
 | []=>by simp [RelL]
 | b::l=>RelL.cons (by simp [Abs.Rel,b0Y]) (b3G l)
theorem b0u{W:World}(h:laidMetH Proofs.Tryz.prog [("flashcache/crc.table",Proofs.YtkmmdlicifiknaaGreatDoor.Rows.laid_flashcache_crc_table)] W):c3t (E0 fun _=>False) [] W:=fun g=>by
 by_cases hg:g=0
 ·subst hg
  have hc:=b1q h
  have e:(E0 fun _=>False).G 0=.fp (a3U.map b0Y):=rfl
  rw [e]
  simp only [Env.Rel,Abs.Rel]
  refine ⟨_,a3U.map fun (b:Nat)=>Value.int .u32 (b:Int),rfl,b3G _,fun _=>⟨_,rfl,?_,by simp,fun h=>h,fun j u hu=>?_⟩⟩
  ·have h0:=hc 0 (by decide)
   rcases Nat.lt_or_ge 0 W.heap.size with h1|h1
   ·exact h1
   exfalso
   unfold World.cell? at h0
   rw [Array.getElem?_eq_none h1] at h0
   simp at h0
  have hadd:(⟨0,0,none⟩:Addr).add j=⟨0,j,none⟩:=by unfold Addr.add;split<;>simp_all
  rw [hadd]
  have h4:a3U.length=16:=rfl
  have hj:j<16:=by
   have:=(List.getElem?_eq_some_iff.1 hu).1
   rw [List.length_map,h4] at this
   exact this
  rw [hc j hj,<- hu,List.getElem?_map,b1b,List.getElem?_eq_getElem (by omega)]
  rfl
 have e:(E0 fun _=>False).G g=.any:=by simp [E0,hg]
 rw [e]
 simp [Env.Rel,Abs.Rel]
theorem b6q{E:Env}{H:Type}{enc:TypeId × Value->H}{W:World}{f:FuncId}{fn:Func}{s:ChangeSpec}{apart fresh handsOn again:Bool}{args:Array Value}{avs:List AV}{ds gs:List (DataW H)}{before:List MemPlace}{tb:TypeId}
  (hok:E.Ok) (hG:c3t E [] W)
  (hl:laidOutB E.P=true) (hvars:s.vars=[]) (hp:(fn.params.toList.all fun t=>E.P.readableRec t&&decide (t<E.P.types.size))=true)
  (hrt:fn.resultTypes=#[tb]) (htb:E.P.underlying tb=some .bool)
  (hres:(s.fn H (ds++gs)).results=[.lit (.bool true)]) (hargs:(s.fn H (ds++gs)).args=ds) (hv0:(s.fn H (ds++gs)).vars=[])
  (hW:DataW.Whole enc E.P fn.params.toList s.vars apart W args.toList ds gs before)
  (hX:∀b,¬ E.X b) (hr:E.RelL [] W avs args.toList) (hc:a0b E f avs [] (fun r H'=>r=.bool true/\H'=[])) :
  Calls E.P f args W fun e W'=>∃v,e=.returned v/\s.post enc E.P fn apart fresh handsOn again W args v W':=by
 have hsim:E.Sim [] W []:=⟨rfl,fun _ _ h=>by simp at h,fun _ h=>by simp at h,fun _ _ _ h=>by simp at h,fun b hb=>absurd hb (hX b),fun b hb=>absurd hb (by simp)⟩
 have h:=hc.2 [] W args.toList hok hG hr hsim
 rw [Array.toArray_toList] at h
 refine h.mono ?_
 rintro e W' ⟨v,m',r,H',rfl,hext,hrel,_,rfl,_⟩
 simp only [Abs.Rel] at hrel
 subst hrel
 exact ⟨_,rfl,b6Y hl hvars hp hrt htb hres hargs hv0 hW ⟨hext.os,hext.tape,hext.output,hext.size,fun k hk=>hext.keep k hk (by simp)⟩⟩
theorem a9n{α:Type}{f:α->AV}:∀{es:List AV},(∀y∈es,∃a,y=f a)->∃l:List α,es=l.map f
 | [],_=>⟨[],rfl⟩
 | y::es,h=>by
  obtain ⟨a,rfl⟩:=h y (by simp)
  obtain ⟨l,rfl⟩:=a9n fun z hz=>h z (List.mem_cons_of_mem _ hz)
  exact ⟨a::l,rfl⟩
theorem b8Y(os:Os)(args:Array Value):laidMetH Proofs.Tryz.prog [("flashcache/crc.table",Proofs.YtkmmdlicifiknaaGreatDoor.Rows.laid_flashcache_crc_table)] ((World.doorLaid Proofs.Tryz.prog 400 os).forCall (fun _ _=>0) ⟨#[],args,[]⟩).memory :=
 laidMetH_of_parts3 (fuel:=8) (laidMet_of_run' 8 (by kernel_rfl) (by kernel_rfl)) (by kernel_rfl) (by kernel_rfl)
theorem b2K{X:Nat->Prop}{x:AV}(h:a3E (E0 X) 2 29 [x]):∃l:List UInt8,x=.sl 1 (l.map u8A)/\l.length<=maxLen:=by
 have h1:∃es,[x]=[.sl 1 es]/\es.length<=maxLen/\∀y∈es,∃ys,y=elA false ys/\∃n,ys=[.int .u8 n]/\IntKind.u8.min<=n/\n<=IntKind.u8.max:=h
 obtain ⟨es,h2,hlen,h3⟩:=h1
 simp only [List.cons.injEq,and_true] at h2
 subst h2
 obtain ⟨l,rfl⟩:=a9n (f:=u8A) fun y hy=>by
  obtain ⟨ys,rfl,n,rfl,h4,h5⟩:=h3 y hy
  have h4':0<=n:=h4
  have h5':n<=255:=h5
  refine ⟨UInt8.ofNat n.toNat,?_⟩
  simp only [elA,u8A,List.headD_cons,Bool.false_eq_true,if_false]
  congr 1
  rw [UInt8.toNat_ofNat']
  omega
 exact ⟨l,rfl,by simpa using hlen⟩
section
open Go.RowKit Go.ChangeShapes Go.WideShapes
theorem c1m{E:Env}{H:Type}{enc:TypeId × Value->H}{W:World}(hok:E.Ok)(hX:∀b,¬ E.X b){f:Nat}{t:TypeId}{fs:List (Nat × TypeId)}{v:Value}{d:DataW H}{ps:List MemPlace}{base:Nat}(hp:a2C E f t=true)(hk:(E.ti t).k=.struct fs)
  (hval:Value.okWide E.P W .any base t v) (h:DataW.Trod enc E.P W 0 (fun _=>true) true t v d ps):∃xs,E.Rel [] W (.agg xs) v/\a3E E f t xs:=by
 obtain ⟨fuel,hf⟩:=h
 obtain ⟨xs,h1,h2,h3⟩:=a9T hok hX f fuel t _ _ hp hf
 have ht:Nat.blt t E.n=true:=by
  cases f with
  | zero=>simp [a2C] at hp
  | succ f =>
   simp only [a2C,Bool.and_eq_true] at hp
   exact hp.1
 obtain ⟨F,hF,-⟩:=a3A hok ht hk
 obtain ⟨cs,rfl,-⟩:=okWide_struct hF hval
 exact ⟨xs,⟨cs.toList,by simp,h1⟩,h2⟩
end
end Go.Abs
