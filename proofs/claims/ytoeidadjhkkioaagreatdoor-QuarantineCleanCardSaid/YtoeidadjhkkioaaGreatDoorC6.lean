/- Texts joined. -/
import Derived.Test.YtoeidadjhkkioaaGreatDoorC5
set_option linter.unusedVariables false
set_option linter.unusedSimpArgs false
namespace Go.Ar
variable {c:cA}{ss:List cH}
structure dJ (c:cA) (ss:List cH):Prop where
 ok:c.ok
 tk:∀s∈ss,s.tk.length=c.n
 uM:ss.Pairwise λa b=>a.st+c.aG<=b.st
def Tk (c:cA)(ss:List cH)(x:Int):Prop:=eD c ss x=some true
def vF (c:cA)(ss:List cH)(p:Nat):Prop:=∃s∈ss,s.st<=p/\p<s.st+c.aG
theorem dJ.pos (h:dJ c ss):0<c.size:=by have:=h.ok;unfold cA.ok at this;omega
theorem dJ.pg (h:dJ c ss):1<=c.aG:=by have:=h.ok;unfold cA.ok at this;omega
theorem dJ.rO (h:dJ c ss):ss.Pairwise λa b=>a.st<b.st:=h.uM.imp λ{a b} d=>by have:=h.pg;omega
theorem dJ.ug (h:dJ c ss){i j:Nat}{s t:cH}(hi:ss[i]?=some s)(hj:ss[j]?=some t)(hij:i<j):s.st+c.aG<=t.st:=by
 obtain⟨b,rfl⟩:=cX.1 hi;obtain⟨a,rfl⟩:=cX.1 hj;exact mu.1 h.uM i j b a hij
theorem dJ.yj (h:dJ c ss){i j:Nat}{s t:cH}{p:Nat}(hi:ss[i]?=some s)(hj:ss[j]?=some t)(h1:s.st<=p)(h2:p<s.st+c.aG)(h3:t.st<=p)(h4:p<t.st+c.aG):i=j:=by
 rcases qn i j with hl|hl|hl
 ·have:=h.ug hi hj hl;omega
 ·exact hl
 ·have:=h.ug hj hi hl;omega
theorem EI (hp:0<c.size){s:cH}{i:Nat}(hi:i<c.n):s.st*256<=at_ c s i/\at_ c s i+c.size<=(s.st+c.aG)*256:=by
 have b:=cA.xP c;have a:(i+1)*c.size<=c.n*c.size:=mA _ hi;unfold at_;rw[zo]at a;omega
theorem GM (hp:0<c.size){s:cH}{i x:Nat}(hi:i<c.n)(h1:at_ c s i<=x)(h2:x<at_ c s i+c.size):s.st<=x/256/\x/256<s.st+c.aG:=by
 have:=EI hp (s:=s) hi;omega
theorem UQ (h:dJ c ss){k l:Nat}{s t:cH}{i j x:Nat}(hk:ss[k]?=some s)(hl:ss[l]?=some t)(hi:i<c.n)(hj:j<c.n)(h1:at_ c s i<=x)(h2:x<at_ c s i+c.size)(h3:at_ c t j<=x)(h4:x<at_ c t j+c.size):k=l/\s=t/\i=j:=by
 have b:=GM h.pos hi h1 h2;have a:=GM h.pos hj h3 h4;have e:=h.yj hk hl b.1 b.2 a.1 a.2;subst e;rw[hk]at hl;cases hl;refine⟨rfl,rfl,?_⟩;unfold at_ at *;have d:=h.pos;rcases qn i j with hl|hl|hl
 ·have:(i+1)*c.size<=j*c.size:=mA _ hl;rw[zo]at this;omega
 ·exact hl
 ·have:(j+1)*c.size<=i*c.size:=mA _ hl;rw[zo]at this;omega
theorem C5 (h:dJ c ss){s:cH}(hs:s∈ss){x:Int}{i:Nat}(hi:idx c s x=some i):i<c.n/\((s.st*256:Nat):Int)<=x/\x<(((s.st+c.aG)*256:Nat):Int)/\((at_ c s i:Nat):Int)<=x/\x<((at_ c s i+c.size:Nat):Int):=by
 obtain⟨d,b,a⟩:=(UE h.pos).1 hi;rw[h.tk s hs]at a;have:=EI h.pos (s:=s) a;have e:at_ c s (i+1)=at_ c s i+c.size:=by unfold at_;rw[zo];omega
 rw[e]at b;omega
theorem F8 (h:dJ c ss){k:Nat}{s:cH}{x:Int}{i:Nat}(hs:ss[k]?=some s)(hi:idx c s x=some i):kT c ss x=some k:=by
 obtain⟨r,m⟩:=cX.1 hs;refine nV.2 ⟨r,by rw[m,hi];rfl,λj p u=>?_⟩;have d:j<ss.length:=by omega
 obtain⟨w,g⟩:=oQ.1 u;have a:=C5 h (zG hs) hi;have b:=C5 h (kz d) g;have:=h.ug (cW d) hs p;omega
theorem Jc (h:dJ c ss){x:Int}{b:Bool}:eD c ss x=some b↔∃(k:Nat) (s:cH) (i:Nat),ss[k]?=some s/\i<c.n/\x=((at_ c s i:Nat):Int)/\s.is i=b:=by
 constructor
 ·intro hx;obtain⟨k,s,i,_,a,g,j⟩:=yM hx;obtain⟨p,m⟩:=(He h.pos).1 g;rw[h.tk s (zG a)]at m;exact⟨k,s,i,a,m,p,j⟩
 ·rintro⟨k,s,i,a,hi,rfl,j⟩;have r:=h.tk s (zG a);have g:obj c s ((at_ c s i:Nat):Int)=some i:=(He h.pos).2 ⟨rfl,O⟩;have d:idx c s ((at_ c s i:Nat):Int)=some i:=(UE h.pos).2 ⟨xE _,by have:=h.pos;unfold at_;rw[zo];omega,O⟩;rw[Ui (F8 h a d) a,g,←j];rfl
theorem Uh (h:dJ c ss){x:Int}:Tk c ss x↔∃(k:Nat) (s:cH) (i:Nat),ss[k]?=some s/\i<c.n/\x=((at_ c s i:Nat):Int)/\s.is i=true:=Jc h
theorem EF (h:dJ c ss){x:Int}{a:Nat}:rE c ss x=some a↔∃(k:Nat) (s:cH) (i:Nat),ss[k]?=some s/\i<c.n/\a=at_ c s i/\((at_ c s i:Nat):Int)<=x/\x<((at_ c s i+c.size:Nat):Int):=by
 constructor
 ·intro hf;cases ho:kT c ss x with
  | none=>rw[J7 ho]at hf;cases hf
  | some k=>
   have g:=(nV.1 ho).1;have b:ss[k]?=some ss[k]:=cW g;rw[Gq ho b]at hf;obtain⟨i,hi,rfl⟩:=od.1 hf;have:=C5 h (zG b) hi;exact⟨k,_,i,b,this.1,rfl,this.2.2.2.1,this.2.2.2.2⟩
 ·rintro⟨k,s,i,b,hi,rfl,h1,h2⟩;have j:=h.tk s (zG b);have e:at_ c s (i+1)=at_ c s i+c.size:=by unfold at_;rw[zo];omega
  have d:idx c s x=some i:=(UE h.pos).2 ⟨h1,by rw[e];exact h2,O⟩;rw[Gq (F8 h b d) b,d];rfl
theorem dJ.put (h:dJ c ss){k i:Nat}{s:cH}(hs:ss[k]?=some s)(v:Bool):dJ c (ss.set k (s.put i v)):=by
 have r:=(cX.1 hs).1;refine⟨h.ok,λt p=>?_,?_⟩
 ·rcases Av p with p|rfl
  ·exact h.tk t p
  ·rw[show(s.put i v).tk.length=s.tk.length by simp[cH.put]];exact h.tk s (zG hs)
 ·rw[mu];intro a b ha hb hab;have d:a<ss.length:=by simpa using ha
  have g:b<ss.length:=by simpa using hb
  have m:∀j (hj:j<(ss.set k (s.put i v)).length) (hj':j<ss.length),(ss.set k (s.put i v))[j].st=ss[j].st:=by
   intro j hj hj';rw[List.getElem_set];split
   ·rename_i e;subst e;have:ss[k]=s:=(cX.1 hs).2;rw[this];rfl
   ·rfl
  rw[m a ha d,m b hb g];exact mu.1 h.uM a b d g hab
theorem Ef {k i:Nat}{s:cH}(hs:ss[k]?=some s)(v:Bool):(ss.set k (s.put i v)).map (·.st)=ss.map (·.st):=by
 apply zt;intro j;simp only[zZ];by_cases hjk:j=k
 ·subst hjk;rw[zO (cX.1 hs).1,hs];rfl
 ·rw[zh (Ne.symm hjk)]
theorem Db {s:cH}{i j:Nat}{v:Bool}(hi:i<s.tk.length):(s.put i v).is j=if j=i then v else s.is j:=by
 unfold cH.is cH.put;simp only[zQ];by_cases hj:j=i
 ·subst hj;rw[zO hi,zC rfl];rfl
 ·rw[zh (Ne.symm hj),zB hj]
theorem LF (h:dJ c ss){k i:Nat}{s:cH}(hs:ss[k]?=some s)(hi:i<c.n)(v:Bool){y:Int}:Tk c (ss.set k (s.put i v)) y↔(y=((at_ c s i:Nat):Int)/\v=true)\/(y≠((at_ c s i:Nat):Int)/\Tk c ss y):=by
 have b:=(cX.1 hs).1;have m:=h.tk s (zG hs);have g:=h.pos;rw[Uh (h.put hs v),Uh h];constructor
 ·rintro⟨l,t,j,ht,hj,rfl,hb⟩;by_cases hlk:l=k
  ·subst hlk;rw[zO b]at ht;cases ht;rw[Db O]at hb;by_cases a:j=i
   ·subst a;rw[zC rfl]at hb;exact .inl ⟨rfl,hb⟩
   ·rw[zB a]at hb;refine .inr ⟨λe=>a ?_,l,s,j,hs,hj,rfl,hb⟩;have d:at_ c s j=at_ c s i:=by have:=Int.ofNat.inj e;exact this
    exact(UQ h hs hs hj hi (zD _) O O O).2.2
  ·rw[zh (Ne.symm hlk)]at ht;refine .inr ⟨λe=>hlk ?_,l,t,j,ht,hj,rfl,hb⟩;have d:at_ c t j=at_ c s i:=Int.ofNat.inj e;exact(UQ h ht hs hj hi (zD _) O O O).1
 ·rintro(⟨rfl,rfl⟩|⟨hne,l,t,j,ht,hj,rfl,hb⟩)
  ·exact⟨k,s.put i true,i,zO b,hi,rfl,by rw[Db O,zC rfl]⟩
  ·by_cases hlk:l=k
   ·subst hlk;rw[hs]at ht;cases ht;have a:j≠i:=λe=>hne (by rw[e]);exact⟨l,s.put i v,j,zO b,hj,rfl,by rw[Db O,zB a];exact hb⟩
   ·exact⟨l,t,j,(zh (Ne.symm hlk)).trans ht,hj,rfl,hb⟩
theorem IE {p:Nat}:vF c ss p↔∃x∈ss.map (·.st),x<=p/\p<x+c.aG:=by
 constructor
 ·rintro⟨s,a,h⟩;exact⟨_,zE.2 ⟨s,a,rfl⟩,h⟩
 ·rintro⟨x,hx,h⟩;obtain⟨s,a,rfl⟩:=zE.1 hx;exact⟨s,a,h⟩
theorem Pk {ss':List cH}(e:ss'.map (·.st)=ss.map (·.st)){p:Nat}:vF c ss' p↔vF c ss p:=by rw[IE,IE,e]
theorem Nd (h:dJ c ss){x:Nat}{ss':List cH}(ho:jc c ss=some (x,ss')):dJ c ss'/\ss'.map (·.st)=ss.map (·.st)/\¬Tk c ss (x:Int)/\∀y,Tk c ss' y↔y=(x:Int)\/Tk c ss y:=by
 unfold jc at ho;split at ho
 ·rename_i k hk;obtain⟨_,s,g,p⟩:=Kt hk;rw[g]at ho;simp only at ho;split at ho
  ·rename_i i hi;cases ho;obtain⟨r,w,u,m⟩:=yx p;rw[hi]at w;cases w;have j:i<c.n:=by rw[←h.tk s (zG g)];exact u
   have a:¬Tk c ss ((at_ c s i:Nat):Int):=λd=>by
    have z:=(Jc h (x:=((at_ c s i:Nat):Int)) (b:=false)).2 ⟨k,s,i,g,j,rfl,m⟩;unfold Tk at d;rw[z]at d;cases d
   refine⟨h.put g true,Ef g true,a,λy=>?_⟩;rw[LF h g j];constructor
   ·rintro(⟨e,_⟩|⟨_,d⟩)
    ·exact .inl e
    ·exact .inr d
   ·rintro(e|d)
    ·exact .inl ⟨e,rfl⟩
    ·exact .inr ⟨λe=>a (e▸d),d⟩
  ·cases ho
 ·cases ho
theorem GH:∀(m:Nat) {ss:List cH},dJ c ss->dJ c (KI c m ss).2/\(KI c m ss).2.map (·.st)=ss.map (·.st)/\(KI c m ss).1.length<=m/\(KI c m ss).1.Nodup/\(∀x∈(KI c m ss).1,¬Tk c ss (x:Int))/\∀y,Tk c (KI c m ss).2 y↔(∃x∈(KI c m ss).1,y=((x:Nat):Int))\/Tk c ss y
 | 0,ss,h=>⟨h,rfl,zD _,uU,by simp[KI],by simp[KI]⟩
 | m+1,ss,h=>by
  cases ho:jc c ss with
  | none=>
   have e:KI c (m+1) ss=([],ss):=by simp[KI,ho]
   rw[e];exact⟨h,rfl,by simp,uU,by simp,by simp⟩
  | some r=>
   obtain⟨x,i⟩:=r;rw[Gx ho];obtain⟨w,u,d,a⟩:=Nd h ho;obtain⟨j,p,B,s,b,A⟩:=GH m w;refine⟨j,p.trans u,by simp;omega,zr.2 ⟨λz=>b x z ((a _).2 (.inl rfl)),s⟩,?_,λy=>?_⟩
   ·intro y hy;rcases zW.1 hy with rfl|hy
    ·exact d
    ·exact λg=>b y hy ((a _).2 (.inr g))
   ·rw[A,a];simp only[zW,exists_eq_or_imp];constructor
    ·rintro(h|h|h)
     ·exact .inl (.inr h)
     ·exact .inl (.inl h)
     ·exact .inr h
    ·rintro((h|h)|h)
     ·exact .inr (.inl h)
     ·exact .inl h
     ·exact .inr (.inr h)
theorem LD:∀(xs:List Int) {ss:List cH},dJ c ss->kO c ss xs->dJ c (xs.foldl (fJ c) ss)/\(xs.foldl (fJ c) ss).map (·.st)=ss.map (·.st)/\∀y,Tk c (xs.foldl (fJ c) ss) y↔Tk c ss y/\y∉xs
 | [],ss,h,_=>⟨h,rfl,by simp⟩
 | x::xs,ss,h,hA=>by
  have hx:=hA.1 x aA;obtain⟨k,s,i,u,d,j,_⟩:=yM hx;obtain⟨b,a⟩:=(He h.pos).1 j;rw[h.tk s (zG d)]at a;have e:=Ab u d j;have w:=h.put d false (i:=i);have g:=hA.next h.pos;obtain⟨p,r,m⟩:=LD xs (ss:=fJ c ss x) (by rw[e];exact w) g;rw[rD];refine⟨p,r.trans (by rw[e];exact Ef d false),λy=>?_⟩;rw[m,e,LF h d a,←b];simp only[za,and_false,false_or,zW,not_or];constructor
  ·rintro⟨⟨b,a⟩,h3⟩;exact⟨a,b,h3⟩
  ·rintro⟨a,b,h3⟩;exact⟨⟨b,a⟩,h3⟩
theorem EJ {s:cH}(h0:s.many=0)(i:Nat):s.is i=false:=by
 unfold cH.many at h0;rw[AW]at h0;unfold cH.is;rw[zQ];cases hi:s.tk[i]? with
 | none=>rfl
 | some b=>
  cases b
  ·rfl
  ·exact absurd (zG hi) h0
theorem dJ.cK (h:dJ c ss):dJ c (Go.Ar.cK ss):=⟨h.ok,λs a=>h.tk s (zJ.1 a).1,h.uM.filter _⟩
theorem FT (h:dJ c ss){y:Int}:Tk c (cK ss) y↔Tk c ss y:=by
 rw[Uh h.cK,Uh h];constructor
 ·rintro⟨k,s,i,hs,hi,rfl,hb⟩;obtain⟨l,a⟩:=zP (zJ.1 (zG hs)).1;exact⟨l,s,i,a,hi,rfl,hb⟩
 ·rintro⟨k,s,i,hs,hi,rfl,hb⟩;have:s∈cK ss:=zJ.2 ⟨zG hs,by
   have:s.many≠0:=λb=>by rw[EJ b i]at hb;cases hb
   simpa using this⟩
  obtain⟨l,a⟩:=zP this;exact⟨l,s,i,a,hi,rfl,hb⟩
theorem Bx {x:Nat}:x∈QY ss↔∃s∈ss,s.many=0/\s.st=x:=by
 unfold QY;simp only[zE,zJ,zU,and_assoc]
theorem E7 (h:dJ c ss){p:Nat}:vF c (cK ss) p↔vF c ss p/\¬∃x∈QY ss,x<=p/\p<x+c.aG:=by
 constructor
 ·rintro⟨s,hs,h1,h2⟩;have d:=zJ.1 hs;refine⟨⟨s,d.1,h1,h2⟩,?_⟩;rintro⟨x,hx,h3,h4⟩;obtain⟨t,g,b,rfl⟩:=Bx.1 hx;obtain⟨i,hi⟩:=zP d.1;obtain⟨j,a⟩:=zP g;have e:=h.yj hi a h1 h2 h3 h4;subst e;rw[hi]at a;cases a;simp[b]at d
 ·rintro⟨⟨s,hs,h1,h2⟩,hn⟩;refine⟨s,zJ.2 ⟨hs,?_⟩,h1,h2⟩;have:s.many≠0:=λb=>hn ⟨s.st,Bx.2 ⟨s,hs,b,rfl⟩,h1,h2⟩;simpa using this
theorem Tu (h:dJ c ss):(QY ss).Pairwise λa b=>a+c.aG<=b:=by
 unfold QY;rw[se];exact h.uM.filter _
theorem VY {st:Nat}{t:cH}:t∈iu c ss st↔t=⟨st,List.replicate c.n false⟩\/t∈ss:=by
 unfold iu;rw[zM,zW];have:t∈ss↔t∈ss.takeWhile (λs=>decide (s.st<st))\/t∈ss.dropWhile (λs=>decide (s.st<st)):=by
  rw[←zM,List.takeWhile_append_dropWhile]
 rw[this];constructor
 ·rintro(h|h|h)
  ·exact .inr (.inl h)
  ·exact .inl h
  ·exact .inr (.inr h)
 ·rintro(h|h|h)
  ·exact .inr (.inl h)
  ·exact .inl h
  ·exact .inr (.inr h)
theorem Le (h:dJ c ss){st:Nat}(hd:∀s∈ss,s.st+c.aG<=st\/st+c.aG<=s.st):dJ c (iu c ss st):=by
 refine⟨h.ok,λs m=>?_,?_⟩
 ·rcases VY.1 m with rfl|m
  ·simp
  ·exact h.tk s m
 ·have g:=GB h.rO st;have r:=h.pg;rw[wA];refine qE.2 ⟨h.uM.sublist (Dw _ _),sF.2 ⟨λb d=>?_,h.uM.sublist (List.drop_sublist _ _)⟩,λa u b d=>?_⟩
  ·obtain⟨i,hi⟩:=zP d;rw[lu]at hi;have:=g.2 _ _ hi;rcases hd b (tK d)with h1|h1
   ·omega
   ·exact h1
  ·obtain⟨i,hi⟩:=zP u;rw[zm]at hi;split at hi
   ·rename_i hlt;rcases zW.1 d with rfl|d
    ·have:=(g.2 _ _ hi).2 hlt;rcases hd a (zG hi)with h1|h1
     ·exact h1
     ·omega
    ·obtain⟨j,p⟩:=zP d;rw[lu]at p;exact h.ug hi p O
   ·cases hi
theorem Jw (h:dJ c ss){st:Nat}(hd:∀s∈ss,s.st+c.aG<=st\/st+c.aG<=s.st){y:Int}:Tk c (iu c ss st) y↔Tk c ss y:=by
 rw[Uh (Le h hd),Uh h];constructor
 ·rintro⟨k,s,i,hs,hi,rfl,hb⟩;rcases VY.1 (zG hs)with rfl|hm
  ·have:(⟨st,List.replicate c.n false⟩:cH).is i=false:=EJ (by simp[cH.many,yQ]) i;rw[this]at hb;cases hb
  ·obtain⟨l,a⟩:=zP hm;exact⟨l,s,i,a,hi,rfl,hb⟩
 ·rintro⟨k,s,i,hs,hi,rfl,hb⟩;obtain⟨l,a⟩:=zP (VY.2 (.inr (zG hs)):s∈iu c ss st);exact⟨l,s,i,a,hi,rfl,hb⟩
theorem SY {st:Nat}(hd:∀s∈ss,s.st+c.aG<=st\/st+c.aG<=s.st):ot c ss st=0:=by
 unfold ot;rw[zB];simp only[zy,zV,not_exists,not_and];intro s hs hlt;rcases hd s hs with h|h<;>omega
end Go.Ar
namespace Go.Ar
open Go.Bu (ZG Kj ZD qI VM dH take KR Vt Bounded)
def gf (st:List Nat)(p:Nat):Nat:=st.getD p 0
def AR.f (A:AR)(p:Nat):Nat:=gf A.st p
def mB (rs:List (Nat×Nat))(p:Nat):Prop:=∃r∈rs,r.1<=p/\p<r.1+r.2
theorem LG {st:List Nat}{p:Nat}(h:gf st p≠0):p<st.length:=by
 apply Classical.byContradiction;intro hn;exact h (by unfold gf;rw[zQ,zX O];rfl)
theorem vp {st:List Nat}{a b v p:Nat}(hb:b<=st.length):gf (gF st a b v) p=if a<=p/\p<b then v else gf st p:=by
 unfold gf;rw[zQ,zQ,Gf];by_cases hp:p<st.length
 ·rw[cW hp];simp only[ze,qz]
 ·rw[zX O,zB O];rfl
theorem UP {n a m:Nat}:ZG n (a:Int) (m:Int)=true↔1<=m/\a+m<=n:=by
 simp only[ZG,zF,zV];omega
theorem Po {st:List Nat}{a m:Nat}{fr:List Nat}(hl:a+m<=st.length):vt st a m fr=true↔∀p,a<=p->p<a+m->gf st p∈fr:=by
 unfold vt;rw[kh];constructor
 ·intro h p h1 h2;have b:p<st.length:=by omega
  have:st[p]∈(st.drop a).take m:=by
   refine zG (i:=p-a) ?_;rw[zm,zC O,lu,show a+(p-a)=p by omega,cW b]
  have:=h _ this;unfold gf;rw[zQ,cW b];simpa using this
 ·intro h x hx;obtain⟨i,hi⟩:=zP hx;rw[zm]at hi;split at hi
  ·rename_i hlt;rw[lu]at hi;have:=h (a+i) O O;unfold gf at this;rw[zQ,hi]at this;simpa using this
  ·cases hi
theorem JV {st:List Nat}{a m v:Nat}{fr:List Nat}(h1:1<=m)(hl:a+m<=st.length)(h:∀p,a<=p->p<a+m->gf st p∈fr):U2 st (a:Int) (m:Int) v fr=gF st a (a+m) v:=by
 unfold U2 oM;rw[zC (UP.2 ⟨h1,hl⟩),dG,dG,(Po hl).2 h];rfl
structure PG (A:AR):Prop where
 len:A.st.length=A.n
 n1:32<=A.n
 n2:A.n<=1024
 n16:A.n%16=0
 le:∀p,A.f p<=3
 us:∀p,A.f p=1↔A.ow p≠0
 fr:∀p,A.S p=true↔2<=A.f p
 hp:∀p,A.f p=0↔A.f (p/16*16)=0
theorem PG.lt {A:AR}(h:PG A){p:Nat}(hp:A.f p≠0):p<A.n:=h.len▸LG hp
theorem PG.jF {A:AR}(h:PG A):Bounded A.S A.n:=λp a=>h.lt (by have:=(h.fr p).1 a;omega)
theorem PG.kj {A:AR}(h:PG A){p q:Nat}(e:p/16=q/16):A.f p=0↔A.f q=0:=by rw[h.hp p,h.hp q,e]
theorem PG.same {A B:AR}(h:PG A)(e1:B.n=A.n)(e2:B.st=A.st)(e3:B.S=A.S)(e4:B.ow=A.ow):PG B:=by
 have a:∀p,B.f p=A.f p:=λp=>by unfold AR.f;rw[e2]
 exact⟨by rw[e2,e1];exact h.len,by rw[e1];exact h.n1,by rw[e1];exact h.n2,by rw[e1];exact h.n16,λp=>by rw[a];exact h.le p,λp=>by rw[a,e4];exact h.us p,λp=>by rw[a,e3];exact h.fr p,λp=>by rw[a,a];exact h.hp p⟩
theorem I8 {ow:Nat->Nat}{a m no:Nat}(h1:1<=m)(h2:a+m<=1024)(p:Nat):jN ow a m no p=if a<=p/\p<a+m then no else ow p:=by
 unfold jN;rw[zC (UP.2 ⟨h1,h2⟩)]
theorem FO {n:Nat}{S:Nat->Bool}{a m:Nat}(h1:1<=m)(h2:a+m<=n)(h:∀p,a<=p->p<a+m->S p=false):Kj n S (a:Int) (m:Int)=dH S a (a+m):=by
 unfold Kj;rw[UP.2 ⟨h1,h2⟩,dG,dG,VM.2 h];rfl
structure Out (A B:AR) (a b:Nat):Prop where
 n:B.n=A.n
 len:B.st.length=A.st.length
 f:∀p,¬(a<=p/\p<b)->B.f p=A.f p
 ow:∀p,¬(a<=p/\p<b)->B.ow p=A.ow p
 S:∀p,¬(a<=p/\p<b)->B.S p=A.S p
theorem Out.pg {A B:AR}{a b v:Nat}(o:Out A B a b)(h:PG A)(hv:v<=3)(hf:∀p,a<=p->p<b->B.f p=v)(hw:∀p,a<=p->p<b->(v=1↔B.ow p≠0))(hS:∀p,a<=p->p<b->(B.S p=true↔2<=v))
 (hz:∀p,B.f p=0↔B.f (p/16*16)=0):PG B:=by
 refine⟨by rw[o.len,o.n];exact h.len,by rw[o.n];exact h.n1,by rw[o.n];exact h.n2,by rw[o.n];exact h.n16,λp=>?_,λp=>?_,λp=>?_,hz⟩
 ·by_cases hp:a<=p/\p<b
  ·rw[hf p hp.1 hp.2];exact hv
  ·rw[o.f p hp];exact h.le p
 ·by_cases hp:a<=p/\p<b
  ·rw[hf p hp.1 hp.2];exact hw p hp.1 hp.2
  ·rw[o.f p hp,o.ow p hp];exact h.us p
 ·by_cases hp:a<=p/\p<b
  ·rw[hf p hp.1 hp.2];exact hS p hp.1 hp.2
  ·rw[o.f p hp,o.S p hp];exact h.fr p
theorem Out.zero {A B:AR}{a b v:Nat}(o:Out A B a b)(h:PG A)(hf:∀p,a<=p->p<b->B.f p=v)(hv:v≠0)(hA:∀p,a<=p->p<b->A.f p≠0):∀p,B.f p=0↔A.f p=0:=by
 intro p;by_cases hp:a<=p/\p<b
 ·rw[hf p hp.1 hp.2];exact⟨λe=>(hv e).elim,λe=>(hA p hp.1 hp.2 e).elim⟩
 ·rw[o.f p hp]
theorem EM {A B:AR}(h:PG A)(e:∀p,B.f p=0↔A.f p=0):∀p,B.f p=0↔B.f (p/16*16)=0:=λp=>by rw[e,e];exact h.hp p
theorem LI {A:AR}(h:PG A){a m:Nat}(h1:1<=m)(hu:∀p,a<=p->p<a+m->A.f p=1):Out A (Uv A (a,m)) a (a+m)/\(∀p,a<=p->p<a+m->(Uv A (a,m)).f p=2/\(Uv A (a,m)).ow p=0)/\PG (Uv A (a,m))/\∀p,(Uv A (a,m)).f p=0↔A.f p=0:=by
 have j:a+m<=A.n:=by have:=h.lt (p:=a+m-1) (by rw[hu _ O O];omega);omega
 have x:=h.n2;have e1:(Uv A (a,m)).st=gF A.st a (a+m) 2:=JV h1 (by rw[h.len];exact j) λp b d=>by
  have:=hu p b d;unfold AR.f at this;rw[this];simp
 have e2:(Uv A (a,m)).S=dH A.S a (a+m):=FO h1 j λp b d=>by
  apply nM.2;intro hS;have:=(h.fr p).1 hS;have:=hu p b d;omega
 have u:∀p,(Uv A (a,m)).ow p=if a<=p/\p<a+m then 0 else A.ow p:=λp=>I8 h1 O p
 have w:∀p,(Uv A (a,m)).f p=if a<=p/\p<a+m then 2 else A.f p:=λp=>by unfold AR.f;rw[e1,vp (by rw[h.len];exact j)]
 have o:Out A (Uv A (a,m)) a (a+m):=⟨rfl,by rw[e1,Vn],λp g=>by rw[w,zB g],λp g=>by rw[u,zB g],λp g=>by
  rw[e2];unfold dH;have:(decide (a<=p)&&decide (p<a+m))=false:=by simp;omega
  rw[this,Bool.or_false]⟩
 have i:∀p,a<=p->p<a+m->(Uv A (a,m)).f p=2:=λp b d=>by rw[w,zC ⟨b,d⟩]
 have r:∀p,a<=p->p<a+m->(Uv A (a,m)).ow p=0:=λp b d=>by rw[u,zC ⟨b,d⟩]
 have s:=o.zero h i O λp b d=>by rw[hu p b d];omega
 refine⟨o,λp b d=>⟨i p b d,r p b d⟩,o.pg h O i (λp b d=>by rw[r p b d];simp) (λp b d=>?_) (EM h s),s⟩;rw[e2,KR];exact⟨λ_=>zD _,λ_=>.inr ⟨b,d⟩⟩
structure sy (A B:AR) (rs:List (Nat×Nat)):Prop where
 pg:PG B
 n:B.n=A.n
 tb:B.tb=A.tb
 room:B.room=A.room
 cQ:B.cQ=A.cQ
 cG:B.cG=A.cG
 runs:B.runs=A.runs
 i:∀p,mB rs p->B.f p=2/\B.ow p=0
 o:∀p,¬mB rs p->B.f p=A.f p/\B.ow p=A.ow p
 z:∀p,B.f p=0↔A.f p=0
theorem Jd:∀(rs:List (Nat×Nat)) {A:AR},PG A->(∀r∈rs,1<=r.2)->(∀r∈rs,∀p,r.1<=p->p<r.1+r.2->A.f p=1)->rs.Pairwise (λa b=>a.1+a.2<=b.1\/b.1+b.2<=a.1)->sy A (UI A rs) rs
 | [],A,h,_,_,_=>⟨h,rfl,rfl,rfl,rfl,rfl,rfl,λp ⟨r,hr,_⟩=>by simp at hr,λp _=>⟨rfl,rfl⟩,λp=>Iff.rfl⟩
 | (a,m)::rs,A,h,hp,hu,hd=>by
  have hd':=sF.1 hd;obtain⟨o,hi,x,B⟩:=LI h (hp _ (mJ ..)) (hu _ (mJ ..));have d:=Jd rs x (λr hr=>hp r (mj _ hr)) (λr hr p s u=>by
   have:=hd'.1 r hr;simp only at this;rw[o.f p O];exact hu r (mj _ hr) p s u) hd'.2
  have e:UI A ((a,m)::rs)=UI (Uv A (a,m)) rs:=rfl;rw[e];refine⟨d.pg,d.n,d.tb,d.room,d.cQ,d.cG,d.runs,λp g=>?_,λp g=>?_,λp=>(d.z p).trans (B p)⟩
  ·by_cases j:mB rs p
   ·exact d.i p j
   ·have:=d.o p j;obtain⟨r,hr,s,u⟩:=g;rcases zW.1 hr with rfl|hr
    ·rw[this.1,this.2];exact hi p s u
    ·exact(j ⟨r,hr,s,u⟩).elim
  ·have j:¬mB rs p:=λ⟨r,hr,w⟩=>g ⟨r,mj _ hr,w⟩;have y:¬(a<=p/\p<a+m):=λw=>g ⟨(a,m),mJ ..,w⟩;have:=d.o p j;exact⟨this.1.trans (o.f p y),this.2.trans (o.ow p y)⟩
theorem CT {A:AR}(h:PG A){a m no:Nat}(h1:1<=m)(hn:no≠0)(hS:∀p,a<=p->p<a+m->A.S p=true):Out A (dT A a m no) a (a+m)/\(∀p,a<=p->p<a+m->(dT A a m no).f p=1/\(dT A a m no).ow p=no)/\PG (dT A a m no)/\∀p,(dT A a m no).f p=0↔A.f p=0:=by
 have j:∀p,a<=p->p<a+m->2<=A.f p:=λp b d=>(h.fr p).1 (hS p b d);have x:a+m<=A.n:=by have:=h.lt (p:=a+m-1) (by have:=j (a+m-1) O O;omega);omega
 have y:=h.n2;have e1:(dT A a m no).st=gF A.st a (a+m) 1:=JV h1 (by rw[h.len];exact x) λp b d=>by
  have B:=j p b d;have z:=h.le p;unfold AR.f at B z;have:gf A.st p=2\/gf A.st p=3:=by omega
  simpa using this
 have u:∀p,(dT A a m no).ow p=if a<=p/\p<a+m then no else A.ow p:=λp=>I8 h1 O p
 have w:∀p,(dT A a m no).f p=if a<=p/\p<a+m then 1 else A.f p:=λp=>by unfold AR.f;rw[e1,vp (by rw[h.len];exact x)]
 have o:Out A (dT A a m no) a (a+m):=⟨rfl,by rw[e1,Vn],λp g=>by rw[w,zB g],λp g=>by rw[u,zB g],λp g=>by
  show take A.S a (a+m) p=A.S p;unfold take;have:(decide (a<=p)&&decide (p<a+m))=false:=by simp;omega
  rw[this];simp⟩
 have i:∀p,a<=p->p<a+m->(dT A a m no).f p=1:=λp b d=>by rw[w,zC ⟨b,d⟩]
 have r:∀p,a<=p->p<a+m->(dT A a m no).ow p=no:=λp b d=>by rw[u,zC ⟨b,d⟩]
 have s:=o.zero h i O λp b d=>by have:=j p b d;omega
 refine⟨o,λp b d=>⟨i p b d,r p b d⟩,o.pg h O i (λp b d=>by rw[r p b d];simp[hn]) (λp b d=>?_) (EM h s),s⟩;show take A.S a (a+m) p=true↔_;rw[Vt];constructor
 ·rintro⟨_,hx⟩;exact(hx ⟨b,d⟩).elim
 ·intro hx;omega
theorem JI:∀(m:Nat) {st:List Nat} {a:Nat},(a+m)*16<=st.length->(∀p,a*16<=p->p<(a+m)*16->gf st p=0)->(Hk st a m).length=st.length/\∀p,gf (Hk st a m) p=if a*16<=p/\p<(a+m)*16 then 3 else gf st p
 | 0,st,a,hl,hz=>⟨rfl,λp=>by rw[zB O];rfl⟩
 | m+1,st,a,hl,hz=>by
  obtain⟨i1,i2⟩:=JI m (st:=st) (a:=a) O λp d g=>hz p d O;rw[IH];have b:gf (Hk st a m) (16*(a+m))=0:=by rw[i2,zB O];exact hz _ O O
  have ok:kD (Hk st a m) ((a+m:Nat):Int)=0:=by
   unfold kD;rw[EO (by rw[i1];omega),zC rfl,dG];unfold gf at b;rw[zC b]
  have e:jb (Hk st a m) ((a+m:Nat):Int)=gF (Hk st a m) (16*(a+m)) (16*(a+m)+16) 3:=by
   unfold jb;rw[zC ok,dG]
  rw[e];refine⟨by rw[Vn,i1],λp=>?_⟩;rw[vp (by rw[i1];omega),i2];by_cases h1:16*(a+m)<=p/\p<16*(a+m)+16
  ·rw[zC h1,zC O]
  ·rw[zB h1];by_cases h2:a*16<=p/\p<(a+m)*16
   ·rw[zC h2,zC O]
   ·rw[zB h2,zB O]
theorem DW {sp:Sp}{s m:Nat}(h:fE sp (s:Int) (m:Int)=0):1<=m/\s+m<=sp.st.length/\∀p,s<=p->p<s+m->gf sp.st p=0:=by
 unfold fE at h;split at h
 ·rename_i hr;obtain⟨d,b⟩:=UP.1 hr;rw[dG,dG]at h;split at h
  ·cases h
  ·rename_i hn;refine⟨d,b,λp j r=>?_⟩;have a:p<sp.st.length:=by omega
   have g:sp.st[p]∈(sp.st.drop s).take m:=by
    refine zG (i:=p-s) ?_;rw[zm,zC O,lu,show s+(p-s)=p by omega,cW a]
   simp only[zy,not_exists,not_and]at hn;have:=hn _ g;unfold gf;rw[zQ,cW a];simpa using this
 ·cases h
structure Grown (A B:AR) (sp sp':Sp) (s size:Nat):Prop where
 pg:PG B
 n:B.n=A.n
 tb:B.tb=A.tb
 room:B.room=A.room
 cQ:B.cQ=A.cQ
 cG:B.cG=A.cG
 runs:B.runs=A.runs
 ow:B.ow=A.ow
 O8:s%16=0
 s1:16<=s
 sl:s+size<=A.n
 un:∀p,s<=p->p<s+size->gf sp.st p=0
 i:∀p,s<=p->p<s+size->B.f p=3/\gf sp'.st p=1
 o:∀p,¬(s<=p/\p<s+size)->B.f p=A.f p/\gf sp'.st p=gf sp.st p
 w:∀x,¬(s*32<=x/\x<(s+size)*32)->sp'.wd x=sp.wd x
 l:sp'.st.length=sp.st.length
 pk:sp'.pk=sp.pk
theorem Hq {sp:Sp}{size s:Nat}(h1:1<=size)(h:dB sp size=some s):fE sp (s:Int) (size:Int)=0/\s≠0/\(∃j,s=j*size)/\∀j,j*size<s->1<=j->fE sp ((j*size:Nat):Int) (size:Int)≠0:=by
 unfold dB at h;obtain⟨u,us,vs,w,y⟩:=List.find?_eq_some_iff_append.1 h;simp only[zF,bne_iff_ne,ne_eq,zU]at u;have m:s∈(List.range (sp.st.length/size)).map (· * size):=by rw[w];simp
 obtain⟨j,x,rfl⟩:=zE.1 m;rw[zg]at x;refine⟨u.2,u.1,⟨j,rfl⟩,λi hi A=>?_⟩;have z:i<j:=Nat.lt_of_mul_lt_mul_right hi;have:i*size∈us:=by
  have g:i*size∈(List.range (sp.st.length/size)).map (· * size):=zE.2 ⟨i,zg.2 O,rfl⟩;have d:((List.range (sp.st.length/size)).map (· * size)).Pairwise (· < ·):=by
   rw[se];exact List.pairwise_lt_range.imp λ{a b} p=>Nat.mul_lt_mul_of_pos_right p O
  rw[w]at g d;rcases zM.1 g with h|h
  ·exact h
  ·rcases zW.1 h with h|h
   ·have:=wW O h;omega
   ·have:=(sF.1 (qE.1 d).2.1).1 _ h;omega
 have:=y _ this;have r:i*size≠0:=by
  have:=Nat.mul_pos (show 0<i by omega) (show 0<size by omega);omega
 simpa[r]using this
theorem EG {sp:Sp}{s m:Nat}(h:fE sp (s:Int) (m:Int)=0):(fZ sp (s:Int) (m:Int)).st.length=sp.st.length/\(∀p,gf (fZ sp (s:Int) (m:Int)).st p=if s<=p/\p<s+m then 1 else gf sp.st p)/\(∀x,¬(s*32<=x/\x<(s+m)*32)->(fZ sp (s:Int) (m:Int)).wd x=sp.wd x)/\(fZ sp (s:Int) (m:Int)).pk=sp.pk:=by
 obtain⟨d,a,_⟩:=DW h;unfold fZ;rw[zC h,dG,dG];refine⟨by simp[Sp.set,Vn],λp=>vp a,λx b=>?_,rfl⟩;show(if s*32<=x/\x<(s+m)*32 then 0 else sp.wd x)=_
 rw[zB b]
theorem RD {A:AR}{sp:Sp}(h:PG A)(hl:sp.st.length=A.n)(hz:∀p,gf sp.st p=0->A.f p=0){size:Nat}(hs:size=16\/size=32\/size=64){B:AR}{sp':Sp}(hg:Hi A sp size=some (B,sp')) :
 ∃s,dB sp size=some s/\Grown A B sp sp' s size:=by
 unfold Hi at hg;split at hg
 ·cases hg
 ·rename_i s hgs;cases hg;obtain⟨C,H,⟨j,K⟩,_⟩:=Hq O hgs;obtain⟨F,z,x⟩:=DW C;have r:s%16=0:=by rcases hs with rfl|rfl|rfl<;>omega
  have D:size%16=0:=by rcases hs with rfl|rfl|rfl<;>omega
  have e1:s/16*16=s:=by omega
  have e2:(s/16+size/16)*16=s+size:=by omega
  have g:∀p,s<=p->p<s+size->A.f p=0:=λp b d=>hz p (x p b d);obtain⟨E,i⟩:=JI (size/16) (st:=A.st) (a:=s/16) (by rw[e2,h.len,←hl];exact z) (by rw[e1,e2];exact g);rw[e1,e2]at i;obtain⟨J,y,G,b4⟩:=EG C;have m:s+size<=A.n:=by rw[←hl];exact z
  have w:Kj A.n A.S (s:Int) (size:Int)=dH A.S s (s+size):=FO F m λp b d=>by
   apply nM.2;intro hS;have:=(h.fr p).1 hS;have:=g p b d;omega
  refine⟨s,hgs,⟨?_,rfl,rfl,rfl,rfl,rfl,rfl,rfl,r,O,m,x,λp b d=>⟨?_,?_⟩,λp hp=>⟨?_,?_⟩,G,J,b4⟩⟩
  ·have o:Out A {A with st:=Hk A.st (s/16) (size/16),S:=Kj A.n A.S (s:Int) (size:Int)} s (s+size):=⟨rfl,E,λp hp=>by show gf _ p=_;rw[i,zB hp];rfl,λp hp=>rfl,λp hp=>by
    show Kj A.n A.S (s:Int) (size:Int) p=A.S p;rw[w];unfold dH;have:(decide (s<=p)&&decide (p<s+size))=false:=by simp;omega
    rw[this,Bool.or_false]⟩
   have u:∀p,s<=p->p<s+size->AR.f {A with st:=Hk A.st (s/16) (size/16),S:=Kj A.n A.S (s:Int) (size:Int)} p=3:=λp b d=>by show gf _ p=3;rw[i,zC ⟨b,d⟩]
   refine o.pg h (zD _) u (λp b d=>?_) (λp b d=>?_) λp=>?_
   ·have H:=g p b d;have:=h.us p;constructor
    ·intro hx;omega
    ·intro hx;have:=this.2 hx;omega
   ·show Kj A.n A.S (s:Int) (size:Int) p=true↔_;rw[w,KR];exact⟨λ_=>O,λ_=>.inr ⟨b,d⟩⟩
   ·by_cases hp:s<=p/\p<s+size
    ·rw[u p hp.1 hp.2,u (p/16*16) O O]
    ·rw[o.f p hp,o.f (p/16*16) O];exact h.hp p
  ·show gf (Hk A.st (s/16) (size/16)) p=3;rw[i,zC ⟨b,d⟩]
  ·rw[y,zC ⟨b,d⟩]
  ·show gf (Hk A.st (s/16) (size/16)) p=A.f p;rw[i,zB hp];rfl
  ·rw[y,zB hp]
end Go.Ar
namespace Go.Ar
open Go.Bu (ZG Kj ZD qI VM dH take KR Vt Bounded full can YT Hh Z2 Kn Qe WW Kq QK)
def Cl (A:AR)(k:Nat)(c:cA)(ss:List cH):Prop:=A.tb[k]?=some c/\A.cG[k]?=some ss
def fT (A:AR)(k:Nat)(x:Int):Prop:=∃c ss,Cl A k c ss/\Tk c ss x
def ib (A:AR)(k:Nat)(x:Int):Prop:=∃t,A.cQ[k]?=some t/\x∈t.bs.flatten
structure GA (A:AR):Prop where
 pg:PG A
 tb:A.tb.length<=40
 lc:A.cG.length=A.tb.length
 lt:A.cQ.length=A.tb.length
 cG:∀k c ss,Cl A k c ss->dJ c ss
 one:∀k c ss,Cl A k c ss->∀s∈ss,s.st/16=(s.st+c.aG-1)/16
 ow:∀k c ss,Cl A k c ss->∀p,A.ow p=k+1↔vF c ss p
 jW:∀p,A.ow p=41↔mB A.runs p
 sA:∀p,A.ow p=41\/A.ow p<=A.tb.length
 gY:∀r∈A.runs,1<=r.2
 kB:A.runs.Pairwise λa b=>a.1+a.2<=b.1\/b.1+b.2<=a.1
 qA:∀(k:Nat) (t:gO),A.cQ[k]?=some t->t.bs.flatten.Nodup
 mq:∀(k:Nat) c ss (t:gO),Cl A k c ss->A.cQ[k]?=some t->∀x∈t.bs.flatten,Tk c ss x
 pN:∀(k:Nat) (c:cA) (t:gO),A.tb[k]?=some c->A.cQ[k]?=some t->∀xs∈t.bs,xs.length=c.batch
structure Kp (A B:AR):Prop where
 n:B.n=A.n
 tb:B.tb=A.tb
 room:B.room=A.room
 z:∀p,B.f p=0↔A.f p=0
 t:∀p,B.f p=3->A.f p=3
theorem Kp.refl (A:AR):Kp A A:=⟨rfl,rfl,rfl,λ_=>Iff.rfl,λ_=>id⟩
theorem Kp.trans {A B C:AR}(h:Kp A B)(k:Kp B C):Kp A C:=⟨k.n.trans h.n,k.tb.trans h.tb,k.room.trans h.room,λp=>(k.z p).trans (h.z p),λp a=>h.t p (k.t p a)⟩
theorem Kp.aG {A B:AR}(e1:B.n=A.n)(e2:B.tb=A.tb)(e3:B.room=A.room)(e4:B.st=A.st):Kp A B:=⟨e1,e2,e3,λp=>by unfold AR.f;rw[e4],λp=>by unfold AR.f;rw[e4];exact id⟩
variable {A:AR}{k:Nat}{c:cA}{ss:List cH}
theorem Cl.lt (h:Cl A k c ss):k<A.tb.length:=(cX.1 h.1).1
theorem Cl.eq {c':cA}{ss':List cH}(h:Cl A k c ss)(h':Cl A k c' ss'):c=c'/\ss=ss':=⟨Option.some.inj (h.1.symm.trans h'.1),Option.some.inj (h.2.symm.trans h'.2)⟩
theorem GA.cl (h:GA A){k:Nat}(hk:k<A.tb.length):∃c ss t,Cl A k c ss/\A.cQ[k]?=some t:=by
 have b:=h.lc;have a:=h.lt;exact⟨A.tb[k],A.cG[k],A.cQ[k],⟨by simp,by simp⟩,by simp⟩
theorem GA.used (h:GA A)(hk:Cl A k c ss){s:cH}(hs:s∈ss){p:Nat}(h1:s.st<=p)(h2:p<s.st+c.aG):A.f p=1/\A.ow p=k+1:=by
 have:=(h.ow k c ss hk p).2 ⟨s,hs,h1,h2⟩;exact⟨(h.pg.us p).2 O,this⟩
theorem GA.jI (h:GA A){r:Nat×Nat}(hr:r∈A.runs){p:Nat}(h1:r.1<=p)(h2:p<r.1+r.2):A.f p=1/\A.ow p=41:=by
 have:=(h.jW p).2 ⟨r,hr,h1,h2⟩;exact⟨(h.pg.us p).2 O,this⟩
theorem GA.gW (h:GA A){r s:Nat×Nat}(hr:r∈A.runs)(hs:s∈A.runs){x:Nat}(h1:r.1<=x)(h2:x<r.1+r.2)(h3:s.1<=x)(h4:x<s.1+s.2):r=s:=by
 obtain⟨i,hi⟩:=zP hr;obtain⟨j,d⟩:=zP hs;obtain⟨a,rfl⟩:=cX.1 hi;obtain⟨b,rfl⟩:=cX.1 d;rcases qn i j with hl|hl|hl
 ·have:=mu.1 h.kB i j a b hl;omega
 ·subst hl;rfl
 ·have:=mu.1 h.kB j i b a hl;omega
theorem GA.fit (h:GA A){r:Nat×Nat}(hr:r∈A.runs):r.1+r.2<=A.n:=by
 have:=h.gY r hr;have:=h.pg.lt (p:=r.1+r.2-1) (by rw[(h.jI hr (p:=r.1+r.2-1) O O).1];omega);omega
theorem GA.pn (h:GA A):iO A:=by
 have w:=h.pg.n2;refine⟨λr b s m x g d i j=>h.gW b m g d i j,λx p a=>?_,λx p u a=>?_,λr b=>?_⟩
 ·obtain⟨r,b,g,d⟩:=(h.jW x).1 a;unfold sQ;rw[Ee];exact⟨r,b,by simp[g,d]⟩
 ·rcases h.sA x with e|e
  ·exact(a e).elim
  ·exact e
 ·have:=h.fit b;omega
theorem US (hk:Cl A k c ss){ss':List cH}{j:Nat}{d:cA}{tt:List cH}(h:Cl {A with cG:=A.cG.set k ss'} j d tt):(j=k/\d=c/\tt=ss')\/(j≠k/\Cl A j d tt):=by
 obtain⟨b,a⟩:=h;by_cases hjk:j=k
 ·subst hjk;have g:=(cX.1 hk.2).1;simp only[zO g]at a;exact .inl ⟨rfl,Option.some.inj (b.symm.trans hk.1),(Option.some.inj a).symm⟩
 ·simp only[zh (Ne.symm hjk)]at a;exact .inr ⟨hjk,b,a⟩
theorem Hx (hk:Cl A k c ss)(ss':List cH):Cl {A with cG:=A.cG.set k ss'} k c ss':=⟨hk.1,zO (cX.1 hk.2).1⟩
theorem Rs {ss':List cH}{j:Nat}{d:cA}{tt:List cH}(hjk:j≠k)(h:Cl A j d tt):Cl {A with cG:=A.cG.set k ss'} j d tt:=⟨h.1,(zh (Ne.symm hjk)).trans h.2⟩
theorem GA.lr (h:GA A)(hk:Cl A k c ss){ss':List cH}(hC:dJ c ss')(hst:ss'.map (·.st)=ss.map (·.st))(ht:∀t,A.cQ[k]?=some t->∀x∈t.bs.flatten,Tk c ss' x):GA {A with cG:=A.cG.set k ss'}:=by
 refine⟨h.pg.same rfl rfl rfl rfl,h.tb,by simp[h.lc],h.lt,λj d b a=>?_,λj d b a s i=>?_,λj d b a p=>?_,h.jW,h.sA,h.gY,h.kB,h.qA,λj d b t a g=>?_,h.pN⟩
 ·rcases US hk a with⟨rfl,rfl,rfl⟩|⟨hne,a⟩
  ·exact hC
  ·exact h.cG j d b a
 ·rcases US hk a with⟨rfl,rfl,rfl⟩|⟨hne,a⟩
  ·have:s.st∈ss.map (·.st):=by rw[←hst];exact zE.2 ⟨s,i,rfl⟩
   obtain⟨t,ht,e⟩:=zE.1 this;rw[←e];exact h.one _ _ _ hk t ht
  ·exact h.one j d b a s i
 ·rcases US hk a with⟨rfl,rfl,rfl⟩|⟨hne,a⟩
  ·rw[Pk hst];exact h.ow _ _ _ hk p
  ·exact h.ow j d b a p
 ·rcases US hk a with⟨rfl,rfl,rfl⟩|⟨hne,a⟩
  ·exact ht t g
  ·exact h.mq j d b t a g
theorem AI (hk:Cl A k c ss){ss':List cH}{j:Nat}{x:Int}:fT {A with cG:=A.cG.set k ss'} j x↔(j=k/\Tk c ss' x)\/(j≠k/\fT A j x):=by
 constructor
 ·rintro⟨d,tt,hj,hx⟩;rcases US hk hj with⟨rfl,rfl,rfl⟩|⟨hne,hj⟩
  ·exact .inl ⟨rfl,hx⟩
  ·exact .inr ⟨hne,d,tt,hj,hx⟩
 ·rintro(⟨rfl,hx⟩|⟨hne,d,tt,hj,hx⟩)
  ·exact⟨c,ss',Hx hk ss',hx⟩
  ·exact⟨d,tt,Rs hne hj,hx⟩
theorem VP (hk:Cl A k c ss){x:Int}:fT A k x↔Tk c ss x:=by
 constructor
 ·rintro⟨d,tt,hj,hx⟩;obtain⟨rfl,rfl⟩:=hk.eq hj;exact hx
 ·intro hx;exact⟨c,ss,hk,hx⟩
def swp (A:AR)(k:Nat)(c:cA)(ss:List cH):AR:=UI {A with cG:=A.cG.set k (cK ss)} ((QY ss).map λs=>(s,c.aG))
theorem Di {p:Nat}:mB ((QY ss).map λs=>(s,c.aG)) p↔∃x∈QY ss,x<=p/\p<x+c.aG:=by
 unfold mB;simp only[zE];constructor
 ·rintro⟨_,⟨x,hx,rfl⟩,h⟩;exact⟨x,hx,h⟩
 ·rintro⟨x,hx,h⟩;exact⟨_,⟨x,hx,rfl⟩,h⟩
theorem GA.j3 (h:GA A)(hk:Cl A k c ss){x:Nat}(hx:x∈QY ss){p:Nat}(h1:x<=p)(h2:p<x+c.aG):A.f p=1/\A.ow p=k+1:=by
 obtain⟨s,a,_,rfl⟩:=Bx.1 hx;exact h.used hk a h1 h2
theorem GA.re (h:GA A)(hk:Cl A k c ss):sy {A with cG:=A.cG.set k (cK ss)} (swp A k c ss) ((QY ss).map λs=>(s,c.aG)):=by
 have i:=h.cG k c ss hk;refine Jd _ (h.pg.same rfl rfl rfl rfl) (λr g=>?_) (λr g p j u=>?_) ?_
 ·obtain⟨x,_,rfl⟩:=zE.1 g;exact i.pg
 ·obtain⟨x,m,rfl⟩:=zE.1 g;exact(h.j3 hk m j u).1
 ·rw[se];exact(Tu i).imp λ{a b} d=>.inl d
theorem GA.swp (h:GA A)(hk:Cl A k c ss):GA (Go.Ar.swp A k c ss):=by
 have b:=h.re hk;have w:=h.cG k c ss hk;have F:=hk.lt;have B:=h.tb;have cl:∀{j d m},Cl (Go.Ar.swp A k c ss) j d m->(j=k/\d=c/\m=cK ss)\/(j≠k/\Cl A j d m):=λ{j d m} a=>US hk ⟨by rw[←b.tb];exact a.1,by rw[←b.cG];exact a.2⟩;have own:∀p,mB ((QY ss).map λs=>(s,c.aG)) p->A.ow p=k+1:=λp g=>by
  obtain⟨x,u,z,C⟩:=Di.1 g;exact(h.j3 hk u z C).2
 have cQ:(Go.Ar.swp A k c ss).cQ=A.cQ:=b.cQ;have tb:(Go.Ar.swp A k c ss).tb=A.tb:=b.tb;have runs:(Go.Ar.swp A k c ss).runs=A.runs:=b.runs;refine⟨b.pg,by rw[tb];exact h.tb,by rw[b.cG,tb];simp[h.lc],by rw[cQ,tb];exact h.lt,λj d m a=>?_,λj d m a s y=>?_,λj d m a p=>?_,λp=>?_,λp=>?_,by rw[runs];exact h.gY,by rw[runs];exact h.kB,by rw[cQ];exact h.qA,λj d m t a r=>?_,by rw[cQ,tb];exact h.pN⟩
 ·rcases cl a with⟨rfl,rfl,rfl⟩|⟨hne,a⟩
  ·exact w.cK
  ·exact h.cG j d m a
 ·rcases cl a with⟨rfl,rfl,rfl⟩|⟨hne,a⟩
  ·exact h.one _ _ _ hk s (zJ.1 y).1
  ·exact h.one j d m a s y
 ·by_cases g:mB ((QY ss).map λs=>(s,c.aG)) p
  ·rw[(b.i p g).2];have E:=own p g;rcases cl a with⟨rfl,rfl,rfl⟩|⟨hne,a⟩
   ·rw[E7 w];constructor
    ·intro e;omega
    ·rintro⟨_,hn⟩;exact(hn (Di.1 g)).elim
   ·rw[←h.ow j d m a p,E];omega
  ·rw[(b.o p g).2];rcases cl a with⟨rfl,rfl,rfl⟩|⟨hne,a⟩
   ·rw[E7 w];show A.ow p=_↔_;rw[h.ow _ _ _ hk p];exact⟨λu=>⟨u,λD=>g (Di.2 D)⟩,λu=>u.1⟩
   ·exact h.ow j d m a p
 ·rw[runs];by_cases g:mB ((QY ss).map λs=>(s,c.aG)) p
  ·rw[(b.i p g).2,←h.jW,own p g];omega
  ·rw[(b.o p g).2];exact h.jW p
 ·rw[tb];by_cases g:mB ((QY ss).map λs=>(s,c.aG)) p
  ·rw[(b.i p g).2];omega
  ·rw[(b.o p g).2];exact h.sA p
 ·rw[cQ]at r;rcases cl a with⟨rfl,rfl,rfl⟩|⟨hne,a⟩
  ·intro x u;exact(FT w).2 (h.mq _ _ _ t hk r x u)
  ·exact h.mq j d m t a r
theorem GA.CB (h:GA A)(hk:Cl A k c ss):Kp A (Go.Ar.swp A k c ss):=by
 have b:=h.re hk;refine⟨b.n,b.tb,b.room,b.z,λp a=>?_⟩;by_cases hi:mB ((QY ss).map λs=>(s,c.aG)) p
 ·rw[(b.i p hi).1]at a;omega
 ·rw[(b.o p hi).1]at a;exact a
theorem GA.Ce (h:GA A)(hk:Cl A k c ss){j:Nat}{x:Int}:fT (Go.Ar.swp A k c ss) j x↔fT A j x:=by
 have b:=h.re hk;have a:=h.cG k c ss hk;have e:fT (Go.Ar.swp A k c ss) j x↔fT {A with cG:=A.cG.set k (cK ss)} j x:=by unfold fT Cl;rw[b.tb,b.cG]
 rw[e,AI hk,FT a];constructor
 ·rintro(⟨rfl,hx⟩|⟨_,hx⟩)
  ·exact(VP hk).2 hx
  ·exact hx
 ·intro hx;by_cases hjk:j=k
  ·subst hjk;exact .inl ⟨rfl,(VP hk).1 hx⟩
  ·exact .inr ⟨hjk,hx⟩
theorem H8 {k:Int}:A.ck k=true↔∃j:Nat,k=j/\j<A.tb.length:=by
 unfold AR.ck;simp only[zF,zV];constructor
 ·intro h;exact⟨k.toNat,O,O⟩
 ·rintro⟨j,rfl,h⟩;omega
structure Ob (A B:AR):Prop where
 ga:GA B
 kp:Kp A B
 runs:B.runs=A.runs
theorem Fk (h:GA A)(k m:Int):Ob A (YU A k m)/\(YU A k m).cQ=A.cQ/\(YC A k m).Nodup/\(YC A k m≠[]->∃j:Nat,k=j/\j<A.tb.length)/\(∀x∈YC A k m,¬fT A k.toNat (x:Int)) ∧
 ∀j y,fT (YU A k m) j y↔fT A j y\/(j=k.toNat/\∃x∈YC A k m,y=((x:Nat):Int)):=by
 by_cases h0:Kd A k m=0
 ·have r:A.ck k=true:=by
   unfold Kd at h0;split at h0
   ·assumption
   ·cases h0
  obtain⟨j,rfl,s⟩:=H8.1 r;obtain⟨c,ss,t,b,D⟩:=h.cl s;have w:VV A (j:Int) m=KI c m.toNat ss:=by unfold VV;rw[dG,b.1,b.2]
  have g:YU A (j:Int) m = {A with cG:=A.cG.set j (KI c m.toNat ss).2}:=by unfold YU;rw[zC h0,w,dG]
  have p:YC A (j:Int) m=(KI c m.toNat ss).1:=by unfold YC;rw[zC h0,w]
  rw[g,p];obtain⟨s1,s2,E,z,B,u⟩:=GH m.toNat (h.cG j c ss b);refine⟨⟨h.lr b s1 s2 λC d x a=>(u x).2 (.inr (h.mq j c ss C b d x a)),Kp.aG rfl rfl rfl rfl,rfl⟩,rfl,z,λ_=>⟨j,rfl,s⟩,λx a=>?_,λi y=>?_⟩
  ·rw[dG,VP b];exact B x a
  ·rw[AI b,u,dG];by_cases hij:i=j
   ·subst hij;rw[VP b];constructor
    ·rintro(⟨_,a|a⟩|⟨a,_⟩)
     ·exact .inr ⟨rfl,a⟩
     ·exact .inl a
     ·exact(a rfl).elim
    ·rintro(a|⟨_,a⟩)
     ·exact .inl ⟨rfl,.inr a⟩
     ·exact .inl ⟨rfl,.inl a⟩
   ·constructor
    ·rintro(⟨a,_⟩|⟨_,a⟩)
     ·exact(hij a).elim
     ·exact .inl a
    ·rintro(a|⟨a,_⟩)
     ·exact .inr ⟨hij,a⟩
     ·exact(hij a).elim
 ·have g:YU A k m=A:=by unfold YU;rw[zB h0]
  have p:YC A k m=[]:=by unfold YC;rw[zB h0]
  rw[g,p];exact⟨⟨h,Kp.refl A,rfl⟩,rfl,uU,by simp,by simp,by simp⟩
theorem Er {xs:List Int}(h:kO c ss xs):iK c ss xs=0:=by
 unfold iK;have b:xs.any (λx=>(eD c ss x).isNone)=false:=by
  rw[mn];intro x hx;rw[h.1 x hx];simp
 have a:xs.any (λx=>eD c ss x==some false)=false:=by
  rw[mn];intro x hx;rw[h.1 x hx];simp
 rw[b,a,zI h.2];rfl
theorem GE (h:GA A)(hk:Cl A k c ss)(xs:List Int):Kv A (k:Int) xs=iK c ss xs:=by
 unfold Kv;rw[H8.2 ⟨k,rfl,hk.lt⟩,zC rfl,dG,hk.1,hk.2]
theorem Cu (h:GA A){k:Int}{xs:List Int}(h0:Kv A k xs=0):∃(j:Nat) (c:cA) (ss:List cH),k=j/\Cl A j c ss/\kO c ss xs:=by
 have a:A.ck k=true:=by
  unfold Kv at h0;split at h0
  ·assumption
  ·cases h0
 obtain⟨j,rfl,d⟩:=H8.1 a;obtain⟨c,ss,t,b,g⟩:=h.cl d;rw[GE h b]at h0;exact⟨j,c,ss,rfl,b,JR h0⟩
theorem B4 (h:GA A){k:Int}{xs:List Int}(hd:Kv A k xs=0->∀x∈xs,¬ib A k.toNat x):Ob A (Z0 A k xs)/\(Z0 A k xs).cQ=A.cQ ∧
 (Kv A k xs=0->∀j y,fT (Z0 A k xs) j y↔fT A j y/\¬(j=k.toNat/\y∈xs))/\(Kv A k xs≠0->Z0 A k xs=A):=by
 by_cases h0:Kv A k xs=0
 ·obtain⟨j,c,m,rfl,g,D⟩:=Cu h h0;obtain⟨z,C,w⟩:=LD xs (h.cG j c m g) D;have r:=h.lr g z C λt u x a=>(w x).2 ⟨h.mq j c m t g u x a,λE=>hd h0 x E ⟨t,by rw[dG];exact u,a⟩⟩;have d:=Hx g (xs.foldl (fJ c) m);have s:Z0 A (j:Int) xs=swp {A with cG:=A.cG.set j (xs.foldl (fJ c) m)} j c (xs.foldl (fJ c) m):=by
   unfold Z0 swp;rw[zC h0,dG,g.1,g.2];simp only[nB]
  have b:=r.re d;rw[s];refine⟨⟨r.swp d,(Kp.aG rfl rfl rfl rfl:Kp A {A with cG:=A.cG.set j (xs.foldl (fJ c) m)}).trans (r.CB d),b.runs⟩,b.cQ,λ_ i y=>?_,λB=>(B h0).elim⟩;rw[r.Ce d,AI g,w,dG];by_cases hij:i=j
  ·subst hij;rw[VP g];constructor
   ·rintro(⟨_,a,hy⟩|⟨a,_⟩)
    ·exact⟨a,λp=>hy p.2⟩
    ·exact(a rfl).elim
   ·rintro⟨a,hy⟩;exact .inl ⟨rfl,a,λp=>hy ⟨rfl,p⟩⟩
  ·constructor
   ·rintro(⟨a,_⟩|⟨_,a⟩)
    ·exact(hij a).elim
    ·exact⟨a,λp=>hij p.1⟩
   ·rintro⟨a,_⟩;exact .inr ⟨hij,a⟩
 ·have s:Z0 A k xs=A:=by unfold Z0;rw[zB h0]
  rw[s];exact⟨⟨h,Kp.refl A,rfl⟩,rfl,λa=>(h0 a).elim,λ_=>rfl⟩
theorem GA.j6 (h:GA A){k:Nat}{t':gO}(h1:t'.bs.flatten.Nodup)(h2:∀x∈t'.bs.flatten,fT A k x)(h3:∀c,A.tb[k]?=some c->∀xs∈t'.bs,xs.length=c.batch):GA {A with cQ:=A.cQ.set k t'}:=by
 have get:∀{j t},(A.cQ.set k t')[j]?=some t->(j=k/\t=t')\/(j≠k/\A.cQ[j]?=some t):=by
  intro j t a;by_cases hjk:j=k
  ·subst hjk;have g:j<A.cQ.length:=by have:=(cX.1 a).1;simpa using this
   rw[zO g]at a;exact .inl ⟨rfl,(Option.some.inj a).symm⟩
  ·rw[zh (Ne.symm hjk)]at a;exact .inr ⟨hjk,a⟩
 refine⟨h.pg.same rfl rfl rfl rfl,h.tb,h.lc,by simp[h.lt],h.cG,h.one,h.ow,h.jW,h.sA,h.gY,h.kB,λj t a=>?_,λj c i t b a x d=>?_,λj c t b a=>?_⟩
 ·rcases get a with⟨rfl,rfl⟩|⟨_,a⟩
  ·exact h1
  ·exact h.qA j t a
 ·rcases get a with⟨rfl,rfl⟩|⟨_,a⟩
  ·exact(VP b).1 (h2 x d)
  ·exact h.mq j c i t b a x d
 ·rcases get a with⟨rfl,rfl⟩|⟨_,a⟩
  ·exact h3 c b
  ·exact h.pN j c t b a
theorem Am {t':gO}{j:Nat}{x:Int}(hk:k<A.cQ.length):ib {A with cQ:=A.cQ.set k t'} j x↔(j=k/\x∈t'.bs.flatten)\/(j≠k/\ib A j x):=by
 by_cases hjk:j=k
 ·subst hjk;have a:(A.cQ.set j t')[j]?=some t':=zO hk;constructor
  ·rintro⟨t,e,hx⟩;have e:(A.cQ.set j t')[j]?=some t:=e;rw[a]at e;cases e;exact .inl ⟨rfl,hx⟩
  ·rintro(⟨_,hx⟩|⟨hx,_⟩)
   ·exact⟨_,a,hx⟩
   ·exact(hx rfl).elim
 ·have a:(A.cQ.set k t')[j]?=A.cQ[j]? := zh (Ne.symm hjk);constructor
  ·rintro⟨t,e,hx⟩;have e:(A.cQ.set k t')[j]?=some t:=e;rw[a]at e;exact .inr ⟨hjk,t,e,hx⟩
  ·rintro(⟨hx,_⟩|⟨_,t,e,hx⟩)
   ·exact(hjk hx).elim
   ·exact⟨t,a.trans e,hx⟩
theorem GV {t:gO}(ht:A.cQ[k]?=some t){x:Int}:ib A k x↔x∈t.bs.flatten:=by
 constructor
 ·rintro⟨t',e,hx⟩;rw[ht]at e;cases e;exact hx
 ·intro hx;exact⟨t,ht,hx⟩
theorem Iz (h:GA A)(k:Int):Ob A (Z3 A k)/\(∀j y,fT (Z3 A k) j y↔fT A j y)/\(∀x∈YR A k,ib A k.toNat x)/\(YR A k).Nodup/\(YR A k≠[]->∃j:Nat,k=j/\j<A.tb.length) ∧
 ∀j y,ib (Z3 A k) j y↔ib A j y/\¬(j=k.toNat/\y∈YR A k):=by
 by_cases h0:QG A k=0
 ·have s:A.ck k=true:=by
   unfold QG at h0;split at h0
   ·assumption
   ·cases h0
  obtain⟨j,rfl,C⟩:=H8.1 s;obtain⟨c,J,t,E,g⟩:=h.cl C;have hne:t.bs≠[]:=by
   intro e;unfold QG at h0;rw[s,zC rfl,dG,g]at h0;simp[e]at h0
  have w:Z3 A (j:Int) = {A with cQ:=A.cQ.set j t.rem}:=by unfold Z3;rw[zC h0,dG,VF g]
  have z:YR A (j:Int)=t.bs.getLast?.getD []:=by unfold YR;rw[zC h0,dG,g]
  have D:t.bs=t.bs.dropLast++[t.bs.getLast hne]:=(List.dropLast_concat_getLast hne).symm;have F:YR A (j:Int)=t.bs.getLast hne:=by rw[z,List.getLast?_eq_some_getLast hne];rfl
  have d:t.bs.flatten=t.bs.dropLast.flatten++t.bs.getLast hne:=by
   conv=>lhs;rw[D]
   simp
  have p:=h.qA j t g;rw[d]at p;have b:=nb.1 p;have m:t.rem.bs=t.bs.dropLast:=rfl;rw[w,F];refine⟨⟨h.j6 (by rw[m];exact b.1) (λx a=>(VP E).2 (h.mq j c J t E g x (by rw[d];exact kG _ a))) λG B H u=>h.pN j G t B g H ((List.dropLast_sublist _).subset u),Kp.aG rfl rfl rfl rfl,rfl⟩,λ_ _=>Iff.rfl,λx a=>?_,b.2.1,λ_=>⟨j,rfl,C⟩,λi y=>?_⟩
  ·rw[dG,GV g,d];exact nZ _ a
  ·rw[Am (by rw[h.lt];exact C),m,dG];by_cases hij:i=j
   ·subst hij;rw[GV g,d,zM];constructor
    ·rintro(⟨_,a⟩|⟨a,_⟩)
     ·exact⟨.inl a,λr=>b.2.2 y a y r.2 rfl⟩
     ·exact(a rfl).elim
    ·rintro⟨a|a,r⟩
     ·exact .inl ⟨rfl,a⟩
     ·exact(r ⟨rfl,a⟩).elim
   ·constructor
    ·rintro(⟨a,_⟩|⟨_,a⟩)
     ·exact(hij a).elim
     ·exact⟨a,λr=>hij r.1⟩
    ·rintro⟨a,_⟩;exact .inr ⟨hij,a⟩
 ·have w:Z3 A k=A:=by unfold Z3;rw[zB h0]
  have z:YR A k=[]:=by unfold YR;rw[zB h0]
  rw[w,z];exact⟨⟨h,Kp.refl A,rfl⟩,λ_ _=>Iff.rfl,by simp,uU,by simp,by simp⟩
theorem Ο (h:GA A)(k:Int){xs:List Int}(hn:xs.Nodup)(hd:∀x∈xs,¬ib A k.toNat x):Ob A (KH A k xs)/\(∀j y,fT (KH A k xs) j y↔fT A j y) ∧
 (VR A k xs=true->(∃j:Nat,k=j/\j<A.tb.length)/\(∀x∈xs,fT A k.toNat x)/\∀j y,ib (KH A k xs) j y↔ib A j y\/(j=k.toNat/\y∈xs))/\(VR A k xs=false->KH A k xs=A):=by
 by_cases h0:VR A k xs=true
 ·have C:H9 A k xs=0:=by
   unfold VR at h0;simp only[zF,zV]at h0;exact h0.1
  have z:A.ck k=true:=by
   unfold H9 at C;split at C
   ·assumption
   ·cases C
  obtain⟨j,rfl,D⟩:=H8.1 z;obtain⟨c,G,t,u,s⟩:=h.cl D;have g:=C;unfold H9 at g;rw[z,zC rfl,dG,u.1,u.2]at g;simp only at g;have p:xs.length=c.batch:=by
   apply Classical.byContradiction;intro d;rw[zB d]at g;cases g
  rw[zC p]at g;have w:∀x∈xs,fT A j x:=by
   intro x d;split at g
   ·rename_i B;rw[kh]at B;rw[VP u];simpa[Tk]using B x d
   ·cases g
  have E:KH A (j:Int) xs = {A with cQ:=A.cQ.set j {t with bs:=t.bs++[xs]}}:=by unfold KH;rw[zC h0,dG,VF s]
  have r:(t.bs++[xs]).flatten=t.bs.flatten++xs:=by simp
  rw[E];refine⟨⟨h.j6 ?_ ?_ ?_,Kp.aG rfl rfl rfl rfl,rfl⟩,λ_ _=>Iff.rfl,λ_=>⟨⟨j,rfl,D⟩,by rw[dG];exact w,λi y=>?_⟩,λH=>by rw[H]at h0;cases h0⟩
  ·show(t.bs++[xs]).flatten.Nodup;rw[r,nb];exact⟨h.qA j t s,hn,λa B b F e=>hd b F (by subst e;rw[dG,GV s];exact B)⟩
  ·intro x d;have d:x∈(t.bs++[xs]).flatten:=d;rw[r,zM]at d;rcases d with d|d
   ·exact(VP u).2 (h.mq j c G t u s x d)
   ·exact w x d
  ·intro c' hc' ys m;have m:ys∈t.bs++[xs]:=m;rcases zM.1 m with m|m
   ·exact h.pN j c' t hc' s ys m
   ·simp only[zN]at m;rw[u.1]at hc';cases hc';rw[m];exact p
  ·rw[Am (by rw[h.lt];exact D),dG];show(i=j/\y∈(t.bs++[xs]).flatten)\/_↔_;rw[r,zM];by_cases hij:i=j
   ·subst hij;rw[GV s];constructor
    ·rintro(⟨_,d|d⟩|⟨d,_⟩)
     ·exact .inl d
     ·exact .inr ⟨rfl,d⟩
     ·exact(d rfl).elim
    ·rintro(d|⟨_,d⟩)
     ·exact .inl ⟨rfl,.inl d⟩
     ·exact .inl ⟨rfl,.inr d⟩
   ·constructor
    ·rintro(⟨d,_⟩|⟨_,d⟩)
     ·exact(hij d).elim
     ·exact .inl d
    ·rintro(d|⟨d,_⟩)
     ·exact .inr ⟨hij,d⟩
     ·exact(hij d).elim
 ·have E:KH A k xs=A:=by unfold KH;rw[zB h0]
  rw[E];exact⟨⟨h,Kp.refl A,rfl⟩,λ_ _=>Iff.rfl,λd=>(h0 d).elim,λ_=>rfl⟩
end Go.Ar
namespace Go.Ar
open Go.Bu (ZG Kj ZD qI VM dH take KR Vt Bounded full can YT Hh Z2 Kn Qe WW Kq QK UC Hs lB)
variable {A:AR}{sp:Sp}{k:Nat}{c:cA}{ss:List cH}
structure Ow (A:AR) (sp:Sp):Prop where
 l:sp.st.length=A.n
 own:∀p,A.f p≠0->gf sp.st p≠0
 cl:∀p,A.f p=3->gf sp.st p=1
 le:∀p,gf sp.st p<=2
structure St (A B:AR) (sp sp':Sp):Prop where
 ga:GA B
 ow:Ow B sp'
 n:B.n=A.n
 tb:B.tb=A.tb
 room:B.room=A.room
 same:∀p,A.f p=0->B.f p=0->gf sp'.st p=gf sp.st p
 gone:∀p,A.f p≠0->B.f p=0->gf sp'.st p=0
 new:∀p,A.f p=0->B.f p≠0->gf sp.st p=0/\16<=p
theorem St.refl (h:GA A)(hw:Ow A sp):St A A sp sp:=⟨h,hw,rfl,rfl,rfl,λ_ _ _=>rfl,λp b a=>(b a).elim,λp b a=>(a b).elim⟩
theorem Ow.len {B C:AR}{sp sp':Sp}(h:Ow B sp)(k:Ow C sp')(e:C.n=B.n):sp'.st.length=sp.st.length:=by rw[h.l,k.l,e]
theorem St.trans {B C:AR}{sp' sp'':Sp}(h:St A B sp sp')(k:St B C sp' sp''):St A C sp sp'':=by
 refine⟨k.ga,k.ow,k.n.trans h.n,k.tb.trans h.tb,k.room.trans h.room,λp a b=>?_,λp a b=>?_,λp a b=>?_⟩
 ·by_cases hB:B.f p=0
  ·rw[k.same p hB b,h.same p a hB]
  ·rw[k.gone p hB b,(h.new p a hB).1]
 ·by_cases hB:B.f p=0
  ·rw[k.same p hB b,h.gone p a hB]
  ·exact k.gone p hB b
 ·by_cases hB:B.f p=0
  ·have:=k.new p hB b;rw[h.same p a hB]at this;exact this
  ·exact h.new p a hB
theorem Ow.kp {B:AR}(hw:Ow A sp)(h:Kp A B):Ow B sp:=⟨hw.l.trans h.n.symm,λp a=>hw.own p λe=>a ((h.z p).2 e),λp a=>hw.cl p (h.t p a),hw.le⟩
theorem St.kp {B:AR}(hg:GA B)(hw:Ow A sp)(h:Kp A B):St A B sp sp:=
 ⟨hg,hw.kp h,h.n,h.tb,h.room,λ_ _ _=>rfl,λp b a=>(b ((h.z p).1 a)).elim,λp b a=>(a ((h.z p).2 b)).elim⟩
theorem Ob.st {B:AR}(o:Ob A B)(hw:Ow A sp):St A B sp sp:=St.kp o.ga hw o.kp
theorem GA.grown (h:GA A){B:AR}{sp':Sp}{s size:Nat}(g:Grown A B sp sp' s size):GA B:=by
 have e:∀{j d tt},Cl B j d tt↔Cl A j d tt:=λ{j d tt}=>by unfold Cl;rw[g.tb,g.cG]
 exact⟨g.pg,by rw[g.tb];exact h.tb,by rw[g.cG,g.tb];exact h.lc,by rw[g.cQ,g.tb];exact h.lt,λj d tt a=>h.cG j d tt (e.1 a),λj d tt a=>h.one j d tt (e.1 a),λj d tt a p=>by rw[g.ow];exact h.ow j d tt (e.1 a) p,
  λp=>by rw[g.ow,g.runs];exact h.jW p,λp=>by rw[g.ow,g.tb];exact h.sA p,by rw[g.runs];exact h.gY,by rw[g.runs];exact h.kB,by rw[g.cQ];exact h.qA,λj d tt t a b=>h.mq j d tt t (e.1 a) (by rw[←g.cQ];exact b),by rw[g.tb,g.cQ];exact h.pN⟩
theorem Grown.st (h:GA A)(hw:Ow A sp){B:AR}{sp':Sp}{s size:Nat}(g:Grown A B sp sp' s size):St A B sp sp':=by
 have b:∀p,B.f p≠A.f p->s<=p/\p<s+size:=λp a=>by
  apply Classical.byContradiction;intro hn;exact a (g.o p hn).1
 refine⟨h.grown g,⟨g.l.trans (hw.l.trans g.n.symm),λp a=>?_,λp a=>?_,λp=>?_⟩,g.n,g.tb,g.room,λp j d=>?_,λp j d=>?_,λp j d=>?_⟩
 ·by_cases hi:s<=p/\p<s+size
  ·rw[(g.i p hi.1 hi.2).2];omega
  ·rw[(g.o p hi).2];rw[(g.o p hi).1]at a;exact hw.own p a
 ·by_cases hi:s<=p/\p<s+size
  ·rw[(g.i p hi.1 hi.2).2]
  ·rw[(g.o p hi).2];rw[(g.o p hi).1]at a;exact hw.cl p a
 ·by_cases hi:s<=p/\p<s+size
  ·rw[(g.i p hi.1 hi.2).2];omega
  ·rw[(g.o p hi).2];exact hw.le p
 ·refine(g.o p λhi=>?_).2;rw[(g.i p hi.1 hi.2).1]at d;omega
 ·have:=b p O;rw[(g.i p this.1 this.2).1]at d;omega
 ·have:=b p O;exact⟨g.un p this.1 this.2,by have:=g.s1;omega⟩
theorem RU {n:Nat}{S:Nat->Bool}(hb:Bounded S n)(hn:n<=1024){j q m a:Nat}(hf:full S j q=true)(hm:m<=2^j)(ha:a<=2^j):ZD n S m a≠none:=by
 intro h0;have s:S (q*2^j)=true:=YT.1 hf _ (Cj _ (kZ j));obtain⟨i,hi⟩:=Hh hb s;have g:j<=i:=by
  apply Classical.byContradiction;intro hlt;exact Kn hi hf rfl (Cj _ (kZ j)) O
 have r:=Qe hb (Z2.1 hi).1;have d:i<11:=by
  apply Classical.byContradiction;intro hge;have:2^11<=2^i:=oP O O;omega
 have p:2^j<=2^i:=oP O g;have:=Hs h0 i d O O;have b:=(Kq hb (k:=i)).2 ⟨_,rfl,hi⟩;rw[this]at b;simp at b
theorem Cd (m:Nat):KC m=16\/KC m=32\/KC m=64:=by
 unfold KC;split
 ·exact .inl rfl
 ·split
  ·exact .inr (.inl rfl)
  ·exact .inr (.inr rfl)
theorem Sr {m:Nat}(h:m<=64):m<=KC m:=by
 unfold KC;split
 ·omega
 ·split<;>omega
theorem Ez (h:GA A)(hw:Ow A sp){m a no:Nat}(h1:1<=m)(h2:m<=64)(ha:1<=a/\a<=16) :
 (dC A sp m a no=(none,A,sp)/\ZD A.n A.S m a=none/\dB sp (KC (max m a))=none) ∨
 ∃x A1 sp1,dC A sp m a no=(some x,dT A1 x m no,sp1)/\ZD A1.n A1.S m a=some x/\(A1=A/\sp1=sp\/ZD A.n A.S m a=none/\∃s,dB sp (KC (max m a))=some s/\Grown A A1 sp sp1 s (KC (max m a))):=by
 cases ht:ZD A.n A.S m a with
 | some x=>exact .inr ⟨x,A,sp,by unfold dC;rw[ht],ht,.inl ⟨rfl,rfl⟩⟩
 | none=>
  cases hg:Hi A sp (KC (max m a))with
  | none=>
   refine .inl ⟨by unfold dC;rw[ht,hg],rfl,?_⟩;unfold Hi at hg;split at hg
   ·assumption
   ·cases hg
  | some r=>
   obtain⟨A1,sp1⟩:=r;obtain⟨s,u,g⟩:=RD h.pg hw.l (λp b=>Classical.byContradiction λB=>hw.own p B b) (Cd _) hg;have d:ZD A1.n A1.S m a≠none:=by
    have y:=Sr (m:=max m a) O;obtain⟨_,_,⟨i,hi⟩,_⟩:=Hq (by have:=Cd (max m a);omega) u;have key:∃j,KC (max m a)=2^j:=by
     rcases Cd (max m a)with e|e|e
     ·exact⟨4,e⟩
     ·exact⟨5,e⟩
     ·exact⟨6,e⟩
    obtain⟨j,z⟩:=key;refine RU g.pg.jF g.pg.n2 (j:=j) (q:=i) (YT.2 λp b=>?_) O O;rw[g.pg.fr];rw[QK,←z,←hi]at b;rw[(g.i p b.1 b.2).1];omega
   obtain⟨x,w⟩:=Option.ne_none_iff_exists'.1 d;exact .inr ⟨x,A1,sp1,by unfold dC;rw[ht,hg];simp only;rw[w],w,.inr ⟨rfl,s,u,g⟩⟩
theorem IM (h:PG A){m a x:Nat}(hx:ZD A.n A.S m a=some x):∀p,x<=p->p<x+m->A.S p=true:=λp d b=>(lB h.jF hx).2 p d b
theorem Nr (h:PG A){m a x:Nat}(h1:1<=m)(h4:m<=4)(hx:ZD A.n A.S m a=some x):x/16=(x+m-1)/16:=by
 obtain⟨j,_,b,_,d,_⟩:=UC hx;obtain⟨q,rfl,g⟩:=(Kq h.jF).1 (List.mem_of_head? d)
 match j,b with
 | 0,b=>
  have:m=1:=by omega
  subst this;rfl
 | 1,b=>
  have:m<=2:=by omega
  simp only[Nat.pow_one]at *;omega
 | j+2,b=>
  have e:2^(j+2)=4*2^j:=by rw[Nat.pow_add];omega
  rw[e,←xG,Nat.mul_comm q 4,xG];generalize q*2^j=z;omega
theorem Ep (h:PG A){a m no:Nat}(h1:1<=m)(hn:no≠0)(hS:∀p,a<=p->p<a+m->A.S p=true):Kp A (dT A a m no):=by
 obtain⟨o,hi,d,g⟩:=CT h h1 hn hS;refine⟨rfl,rfl,rfl,g,λp b=>?_⟩;by_cases hin:a<=p/\p<a+m
 ·rw[(hi p hin.1 hin.2).1]at b;omega
 ·rw[o.f p hin]at b;exact b
theorem GA.rF (h:GA A)(hk:Cl A k c ss){x:Nat}(hS:∀p,x<=p->p<x+c.aG->A.S p=true)(h1:x/16=(x+c.aG-1)/16) :
 GA {dT A x c.aG (k+1)with cG:=(dT A x c.aG (k+1)).cG.set k (iu c ss x)}/\(∀s∈ss,s.st+c.aG<=x\/x+c.aG<=s.st):=by
 have m:=h.cG k c ss hk;have u:=m.pg;have E:=hk.lt;have B:=h.tb;obtain⟨o,hi,pg,F⟩:=CT h.pg u (no:=k+1) O hS;have r:∀p,x<=p->p<x+c.aG->A.ow p=0:=λp z C=>by
  have D:=(h.pg.fr p).1 (hS p z C);apply Classical.byContradiction;intro hne;have:=(h.pg.us p).2 hne;omega
 have hd:∀s∈ss,s.st+c.aG<=x\/x+c.aG<=s.st:=λs b=>by
  apply Classical.byContradiction;intro hn;have D:=r (max x s.st) O O;have:=(h.used hk b (p:=max x s.st) O O).2;omega
 refine⟨?_,hd⟩;have g:Cl (dT A x c.aG (k+1)) k c ss:=hk;refine⟨pg.same rfl rfl rfl rfl,h.tb,by show(A.cG.set k _).length=_;simp[h.lc];rfl,h.lt,λj d i a=>?_,λj d i a s b=>?_,λj d i a p=>?_,λp=>?_,λp=>?_,h.gY,h.kB,h.qA,λj d i t a w=>?_,h.pN⟩
 ·rcases US g a with⟨rfl,rfl,rfl⟩|⟨hne,a⟩
  ·exact Le m hd
  ·exact h.cG j d i a
 ·rcases US g a with⟨rfl,rfl,rfl⟩|⟨hne,a⟩
  ·rcases VY.1 b with rfl|b
   ·exact h1
   ·exact h.one _ _ _ hk s b
  ·exact h.one j d i a s b
 ·show(dT A x c.aG (k+1)).ow p=j+1↔_;by_cases hp:x<=p/\p<x+c.aG
  ·rw[(hi p hp.1 hp.2).2];rcases US g a with⟨rfl,rfl,rfl⟩|⟨hne,a⟩
   ·exact⟨λ_=>⟨_,VY.2 (.inl rfl),hp.1,hp.2⟩,λ_=>rfl⟩
   ·rw[←h.ow j d i a p,r p hp.1 hp.2];omega
  ·rw[o.ow p hp];rcases US g a with⟨rfl,rfl,rfl⟩|⟨hne,a⟩
   ·rw[h.ow _ _ _ hk p];constructor
    ·rintro⟨s,b,h3⟩;exact⟨s,VY.2 (.inr b),h3⟩
    ·rintro⟨s,b,h3⟩;rcases VY.1 b with rfl|b
     ·exact(hp h3).elim
     ·exact⟨s,b,h3⟩
   ·exact h.ow j d i a p
 ·show(dT A x c.aG (k+1)).ow p=41↔mB A.runs p;by_cases hp:x<=p/\p<x+c.aG
  ·rw[(hi p hp.1 hp.2).2,←h.jW,r p hp.1 hp.2];omega
  ·rw[o.ow p hp];exact h.jW p
 ·show(dT A x c.aG (k+1)).ow p=41\/(dT A x c.aG (k+1)).ow p<=A.tb.length;by_cases hp:x<=p/\p<x+c.aG
  ·rw[(hi p hp.1 hp.2).2];omega
  ·rw[o.ow p hp];exact h.sA p
 ·rcases US g a with⟨rfl,rfl,rfl⟩|⟨hne,a⟩
  ·intro y hy;exact(Jw m hd).2 (h.mq _ _ _ t hk w y hy)
  ·exact h.mq j d i t a w
theorem GA.uh (h:GA A){x m:Nat}(hm:1<=m)(hS:∀p,x<=p->p<x+m->A.S p=true):GA {dT A x m 41 with runs:=A.runs++[(x,m)]}:=by
 have w:=h.tb;obtain⟨o,hi,pg,B⟩:=CT h.pg hm (no:=41) O hS;have g:∀p,x<=p->p<x+m->A.ow p=0:=λp u y=>by
  have z:=(h.pg.fr p).1 (hS p u y);apply Classical.byContradiction;intro hne;have:=(h.pg.us p).2 hne;omega
 refine⟨pg.same rfl rfl rfl rfl,h.tb,h.lc,h.lt,h.cG,h.one,λj d tt b p=>?_,λp=>?_,λp=>?_,λr a=>?_,?_,h.qA,h.mq,h.pN⟩
 ·have b:Cl A j d tt:=b;have:=b.lt;show(dT A x m 41).ow p=j+1↔_;by_cases hp:x<=p/\p<x+m
  ·rw[(hi p hp.1 hp.2).2,←h.ow j d tt b p,g p hp.1 hp.2];omega
  ·rw[o.ow p hp];exact h.ow j d tt b p
 ·show(dT A x m 41).ow p=41↔mB (A.runs++[(x,m)]) p;by_cases hp:x<=p/\p<x+m
  ·rw[(hi p hp.1 hp.2).2];exact⟨λ_=>⟨(x,m),by simp,hp⟩,λ_=>rfl⟩
  ·rw[o.ow p hp,h.jW];constructor
   ·rintro⟨r,a,h3⟩;exact⟨r,by simp[a],h3⟩
   ·rintro⟨r,a,h3⟩;rcases zM.1 a with a|a
    ·exact⟨r,a,h3⟩
    ·simp only[zN]at a;subst a;exact(hp h3).elim
 ·show(dT A x m 41).ow p=41\/(dT A x m 41).ow p<=A.tb.length;by_cases hp:x<=p/\p<x+m
  ·rw[(hi p hp.1 hp.2).2];omega
  ·rw[o.ow p hp];exact h.sA p
 ·rcases zM.1 a with a|a
  ·exact h.gY r a
  ·simp only[zN]at a;subst a;exact hm
 ·refine qE.2 ⟨h.kB,by simp,λr a s i=>?_⟩;simp only[zN]at i;subst i;apply Classical.byContradiction;intro hn;simp only at hn;have:=h.gY r a;have z:=g (max x r.1) O O;have:=(h.jI a (p:=max x r.1) O O).2;omega
theorem TA {l:List (Nat×Nat)}{x m:Nat}(h:∀r∈l,r.1≠x):cC.mset2 l x m=l++[(x,m)]:=by
 unfold cC.mset2;rw[zB];simp only[zy,zU,not_exists,not_and];exact h
theorem Lu (h:GA A)(hw:Ow A sp)(k:Int) :
 ((cP A sp k=(A,sp))/\Vx A sp k≠0/\(A.ck k=true->Vx A sp k=6)) ∨
 ∃(j:Nat) (c:cA) (ss:List cH) (x:Nat) (A1:AR) (sp1:Sp),k=j/\Cl A j c ss/\Cl A1 j c ss/\Vx A sp k=0/\cP A sp k=({dT A1 x c.aG (j+1)with cG:=(dT A1 x c.aG (j+1)).cG.set j (iu c ss x)},sp1) ∧
  St A A1 sp sp1/\A1.runs=A.runs/\A1.cQ=A.cQ/\A1.cG=A.cG/\ZD A1.n A1.S c.aG 1=some x/\(∀s∈ss,s.st+c.aG<=x\/x+c.aG<=s.st)/\St A (cP A sp k).1 sp (cP A sp k).2:=by
 by_cases hck:A.ck k=true
 ·obtain⟨j,rfl,D⟩:=H8.1 hck;obtain⟨c,ss,t,b,J⟩:=h.cl D;have F:=h.cG j c ss b;have y:=F.ok;unfold cA.ok at y;have H:=b.lt;rcases Ez h hw (m:=c.aG) (a:=1) (no:=j+1) O O O with⟨hg,_⟩|⟨x,A1,sp1,hg,htk,hor⟩
  ·left;have z:Vx A sp (j:Int)=6:=by unfold Vx;rw[hck,zC rfl,dG,b.1,b.2];simp only;rw[hg]
   have E:cP A sp (j:Int)=(A,sp):=by unfold cP;rw[hck,zC rfl,dG,b.1,b.2];simp only;rw[hg]
   rw[E,z];exact⟨rfl,by simp,λ_=>rfl⟩
  ·right;have z:Vx A sp (j:Int)=ot c ss x:=by unfold Vx;rw[hck,zC rfl,dG,b.1,b.2];simp only;rw[hg]
   have w:GA A1:=by
    rcases hor with⟨rfl,rfl⟩|⟨_,s,_,g⟩
    ·exact h
    ·exact h.grown g
   have d:St A A1 sp sp1:=by
    rcases hor with⟨rfl,rfl⟩|⟨_,s,_,g⟩
    ·exact St.refl h hw
    ·exact g.st h hw
   have i:A1.runs=A.runs/\A1.cQ=A.cQ/\A1.cG=A.cG:=by
    rcases hor with⟨rfl,rfl⟩|⟨_,s,_,g⟩
    ·exact⟨rfl,rfl,rfl⟩
    ·exact⟨g.runs,g.cQ,g.cG⟩
   have p:Cl A1 j c ss:=⟨by rw[d.tb];exact b.1,by rw[i.2.2];exact b.2⟩;have C:=IM w.pg htk;obtain⟨G,hd⟩:=w.rF p C (Nr w.pg O O htk);have B:=SY hd;have r:cP A sp (j:Int)=({dT A1 x c.aG (j+1)with cG:=(dT A1 x c.aG (j+1)).cG.set j (iu c ss x)},sp1):=by
    unfold cP;rw[hck,zC rfl,dG,b.1,b.2];simp only;rw[hg];simp only;rw[zC B]
   refine⟨j,c,ss,x,A1,sp1,rfl,b,p,by rw[z];exact B,r,d,i.1,i.2.1,i.2.2,htk,hd,?_⟩;rw[r];have kp:=Ep w.pg (no:=j+1) O O C;exact d.trans (St.kp G d.ow (kp.trans (Kp.aG rfl rfl rfl rfl)))
 ·left;have u:A.ck k=false:=by simpa using hck
  unfold cP Vx;rw[u];exact⟨rfl,by simp,λh=>by cases h⟩
theorem T5 (h:GA A)(hw:Ow A sp)(k:Int):St A (cP A sp k).1 sp (cP A sp k).2/\(cP A sp k).1.runs=A.runs/\(cP A sp k).1.cQ=A.cQ/\(∀j y,fT (cP A sp k).1 j y↔fT A j y)/\(Vx A sp k≠0->cP A sp k=(A,sp)):=by
 rcases Lu h hw k with⟨e,_⟩|⟨j,c,ss,x,A1,sp1,rfl,hk,hk1,hE,e,hst,r1,r2,r3,_,hd,hS⟩
 ·rw[e];exact⟨St.refl h hw,rfl,rfl,λ_ _=>Iff.rfl,λ_=>rfl⟩
 ·refine⟨hS,by rw[e];exact r1,by rw[e];exact r2,λi y=>?_,λd=>(d hE).elim⟩;rw[e];have b:Cl (dT A1 x c.aG (j+1)) j c ss:=hk1;rw[AI b,Jw (h.cG j c ss hk) hd];have e2:fT (dT A1 x c.aG (j+1)) i y↔fT A i y:=by
   have:(dT A1 x c.aG (j+1)).tb=A.tb/\(dT A1 x c.aG (j+1)).cG=A.cG:=⟨hst.tb,r3⟩;unfold fT Cl;rw[this.1,this.2]
  rw[e2];by_cases hij:i=j
  ·subst hij;rw[VP hk];exact⟨λa=>by rcases a with⟨_,a⟩|⟨a,_⟩;exact a;exact(a rfl).elim,λa=>.inl ⟨rfl,a⟩⟩
  ·exact⟨λa=>by rcases a with⟨a,_⟩|⟨_,a⟩;exact(hij a).elim;exact a,λa=>.inr ⟨hij,a⟩⟩
theorem Nm {m a:Int}(h:KX m a=true):∃x y:Nat,m=x/\a=y/\1<=x/\x<=64/\(y=1\/y=2\/y=4\/y=8\/y=16):=by
 unfold KX at h;simp only[zF,zV,nT,zU]at h;exact⟨m.toNat,a.toNat,O,O,O,O,O⟩
theorem Pe (h:GA A)(hw:Ow A sp)(m a:Int) :
 (cC A sp m a=(A,sp)/\Q8 A sp m a≠0/\(KX m a=true->Q8 A sp m a=6/\ZD A.n A.S m.toNat a.toNat=none/\dB sp (KC (max m.toNat a.toNat))=none)) ∨
 ∃(x:Nat) (A1:AR) (sp1:Sp),KX m a=true/\Q8 A sp m a=0/\QF A sp m a=x/\cC A sp m a=({dT A1 x m.toNat 41 with runs:=A.runs++[(x,m.toNat)]},sp1) ∧
  ZD A1.n A1.S m.toNat a.toNat=some x/\(A1=A/\sp1=sp\/ZD A.n A.S m.toNat a.toNat=none/\∃s,dB sp (KC (max m.toNat a.toNat))=some s/\Grown A A1 sp sp1 s (KC (max m.toNat a.toNat))) ∧
  St A (cC A sp m a).1 sp (cC A sp m a).2/\(cC A sp m a).1.cQ=A.cQ/\(∀j y,fT (cC A sp m a).1 j y↔fT A j y):=by
 by_cases hp:KX m a=true
 ·obtain⟨b,w,rfl,rfl,J,N,R⟩:=Nm hp;have G:Q8 A sp (b:Int) (w:Int)=if(dC A sp b w 41).1.isSome then 0 else 6:=by unfold Q8;rw[zC hp,dG,dG]
  have K:QF A sp (b:Int) (w:Int)=(dC A sp b w 41).1.getD 0:=by unfold QF;rw[zC hp,dG,dG]
  rcases Ez h hw (m:=b) (a:=w) (no:=41) J N O with⟨hg,hn1,hn2⟩|⟨x,A1,sp1,hg,htk,hor⟩
  ·left;have H:cC A sp (b:Int) (w:Int)=(A,sp):=by unfold cC;rw[zC hp,dG,dG,hg]
   rw[H,G,hg,dG,dG];exact⟨rfl,by simp,λ_=>⟨rfl,hn1,hn2⟩⟩
  ·right;have z:GA A1:=by
    rcases hor with⟨rfl,rfl⟩|⟨_,s,_,g⟩
    ·exact h
    ·exact h.grown g
   have u:St A A1 sp sp1:=by
    rcases hor with⟨rfl,rfl⟩|⟨_,s,_,g⟩
    ·exact St.refl h hw
    ·exact g.st h hw
   have d:A1.runs=A.runs/\A1.cQ=A.cQ/\A1.cG=A.cG:=by
    rcases hor with⟨rfl,rfl⟩|⟨_,s,_,g⟩
    ·exact⟨rfl,rfl,rfl⟩
    ·exact⟨g.runs,g.cQ,g.cG⟩
   have E:=IM z.pg htk;have B:∀r∈A.runs,r.1≠x:=λr M e=>by
    have C:r∈A1.runs:=by rw[d.1];exact M
    have:=z.gY r C;have P:=(z.jI C (p:=x) O O).1;have Q:=(z.pg.fr x).1 (E x O O);omega
   have i:cC A sp (b:Int) (w:Int)=({dT A1 x b 41 with runs:=A.runs++[(x,b)]},sp1):=by
    unfold cC;rw[zC hp,dG,dG,hg];show({dT A1 x b 41 with runs:=cC.mset2 A1.runs x b},sp1)=_;rw[d.1,TA B]
   have F:=z.uh O E;rw[d.1]at F;have kp:=Ep z.pg (no:=41) O O E;refine⟨x,A1,sp1,hp,by rw[G,hg];rfl,by rw[K,hg];rfl,by rw[dG];exact i,by rw[dG,dG];exact htk,by rw[dG,dG];exact hor,?_,by rw[i];exact d.2.1,λj y=>?_⟩
   ·rw[i];exact u.trans (St.kp F u.ow (kp.trans (Kp.aG rfl rfl rfl rfl)))
   ·rw[i];have e1:({dT A1 x b 41 with runs:=A.runs++[(x,b)]}:AR).tb=A.tb:=u.tb;have e2:({dT A1 x b 41 with runs:=A.runs++[(x,b)]}:AR).cG=A.cG:=d.2.2;unfold fT Cl;rw[e1,e2]
 ·left;have D:KX m a=false:=by simpa using hp
  unfold cC Q8;rw[D];exact⟨rfl,by simp,λL=>by cases L⟩
theorem MF {x:Int}{r:Nat×Nat}(h:qt A x=some r):r∈A.runs/\x=(r.1:Int):=by
 unfold qt at h;exact⟨uG h,by have:=uc h;simpa using Eq.symm (by simpa using this)⟩
theorem MK (h:GA A)(x:Int):(Kp A (Kc A x)/\GA (Kc A x))/\(Kc A x).cQ=A.cQ/\(∀j y,fT (Kc A x) j y↔fT A j y)/\(VB A x≠0->Kc A x=A) ∧
 (VB A x=0->∃r∈A.runs,x=(r.1:Int)/\(Kc A x).runs=A.runs.filter λq=>!(q==r)):=by
 cases hr:qt A x with
 | none=>
  have e:Kc A x=A:=by unfold Kc;rw[hr]
  have D:VB A x=8:=by unfold VB;rw[hr];rfl
  rw[e,D];exact⟨⟨Kp.refl A,h⟩,rfl,λ_ _=>Iff.rfl,λ_=>rfl,λi=>by cases i⟩
 | some r=>
  obtain⟨b,i⟩:=MF hr;have u:=h.gY r b;have z:A.runs.filter (λq=>!((q.1:Int)==x))=A.runs.filter λq=>!(q==r):=by
   apply vP;intro q g;have:((q.1:Int)==x)=(q==r):=by
    rw[kU];simp only[zU];constructor
    ·intro e;have G:=h.gY q g;exact h.gW g b (x:=q.1) O O O O
    ·rintro rfl;exact i.symm
   rw[this]
  have e:Kc A x=Uv {A with runs:=A.runs.filter λq=>!(q==r)} r:=by unfold Kc;rw[hr];simp only;rw[z]
  have D:VB A x=0:=by unfold VB;rw[hr];rfl
  obtain⟨a,m⟩:=r;obtain⟨o,hi,pg,H⟩:=LI (A:={A with runs:=A.runs.filter λq=>!(q==(a,m))}) (h.pg.same rfl rfl rfl rfl) u (λp B E=>(h.jI b B E).1);have own:∀p,a<=p->p<a+m->A.ow p=41:=λp B E=>(h.jI b B E).2;have F:=h.tb;rw[e,D];refine⟨⟨⟨rfl,rfl,rfl,H,λp C=>?_⟩,?_⟩,rfl,λ_ _=>Iff.rfl,λi=>(i rfl).elim,λ_=>⟨_,b,i,rfl⟩⟩
  ·by_cases hin:a<=p/\p<a+m
   ·rw[(hi p hin.1 hin.2).1]at C;omega
   ·rw[o.f p hin]at C;exact C
  ·refine⟨pg,h.tb,h.lc,h.lt,h.cG,h.one,λj d tt w p=>?_,λp=>?_,λp=>?_,λq g=>h.gY q (zJ.1 g).1,h.kB.filter _,h.qA,h.mq,h.pN⟩
   ·have w:Cl A j d tt:=w;have:=w.lt;by_cases hin:a<=p/\p<a+m
    ·rw[(hi p hin.1 hin.2).2,←h.ow j d tt w p,own p hin.1 hin.2];omega
    ·rw[o.ow p hin];exact h.ow j d tt w p
   ·show _↔mB (A.runs.filter λq=>!(q==(a,m))) p;by_cases hin:a<=p/\p<a+m
    ·rw[(hi p hin.1 hin.2).2];constructor
     ·intro i;omega
     ·rintro⟨q,g,q1,q2⟩;have s:=zJ.1 g;have:=h.gW s.1 b q1 q2 hin.1 hin.2;subst this;simp at s
    ·rw[o.ow p hin];show A.ow p=41↔_;rw[h.jW];constructor
     ·rintro⟨q,g,q1⟩;refine⟨q,zJ.2 ⟨g,?_⟩,q1⟩;have:q≠(a,m):=by rintro rfl;exact hin q1
      simpa using this
     ·rintro⟨q,g,q1⟩;exact⟨q,(zJ.1 g).1,q1⟩
   ·by_cases hin:a<=p/\p<a+m
    ·rw[(hi p hin.1 hin.2).2];omega
    ·rw[o.ow p hin];exact h.sA p
theorem Dr (k:Nat):∀(outs:List (List Int)) {A:AR},GA A->outs.flatten.Nodup->(∀x∈outs.flatten,fT A k x/\¬ib A k x) →
 Ob A (outs.foldl (λA' xs=>Z0 A' (k:Int) xs) A)/\(outs.foldl (λA' xs=>Z0 A' (k:Int) xs) A).cQ=A.cQ/\∀j y,fT (outs.foldl (λA' xs=>Z0 A' (k:Int) xs) A) j y↔fT A j y/\¬(j=k/\y∈outs.flatten)
 | [],A,h,_,_=>⟨⟨h,Kp.refl A,rfl⟩,rfl,by simp⟩
 | xs::outs,A,h,hn,ht=>by
  rw[vq]at hn ht;have hn':=nb.1 hn;have m:∀x∈xs,fT A k x/\¬ib A k x:=λx i=>ht x (kG _ i);rw[rD];cases xs with
  | nil=>
   have u:Z0 A (k:Int) []=A\/Kv A (k:Int) []=0:=by
    by_cases w:Kv A (k:Int) []=0
    ·exact .inr w
    ·exact .inl (by unfold Z0;rw[zB w])
   obtain⟨o,e,t,_⟩:=B4 h (k:=(k:Int)) (xs:=[]) (λ_=>by simp);have s:∀j y,fT (Z0 A (k:Int) []) j y↔fT A j y:=λj y=>by
    rcases u with u|u
    ·rw[u]
    ·rw[t u];simp
   have p:∀j y,ib (Z0 A (k:Int) []) j y↔ib A j y:=λj y=>by unfold ib;rw[e]
   obtain⟨o2,e2,z⟩:=Dr k outs o.ga hn'.2.1 λx i=>by rw[s,p];exact ht x (nZ _ i)
   exact⟨⟨o2.ga,o.kp.trans o2.kp,o2.runs.trans o.runs⟩,e2.trans e,λj y=>by rw[z,s];simp⟩
  | cons x0 xs=>
   obtain⟨c,C,B,_⟩:=(m x0 aA).1;have w:Kv A (k:Int) (x0::xs)=0:=by
    rw[GE h B];exact Er ⟨λx i=>(VP B).1 (m x i).1,hn'.1⟩
   obtain⟨o,e,t,_⟩:=B4 h (k:=(k:Int)) (xs:=x0::xs) (λ_ x i=>by rw[dG];exact(m x i).2);have s:=t w;have p:∀j y,ib (Z0 A (k:Int) (x0::xs)) j y↔ib A j y:=λj y=>by unfold ib;rw[e]
   obtain⟨o2,e2,z⟩:=Dr k outs o.ga hn'.2.1 λx i=>by
    rw[s,p];have:=ht x (nZ _ i);exact⟨⟨this.1,λg=>hn'.2.2 x g.2 x i rfl⟩,this.2⟩
   refine⟨⟨o2.ga,o.kp.trans o2.kp,o2.runs.trans o.runs⟩,e2.trans e,λj y=>?_⟩;rw[z,s,dG,vq,zM];constructor
   ·rintro⟨⟨a,b⟩,d⟩;refine⟨a,λ⟨r,g⟩=>?_⟩;rcases g with g|g
    ·exact b ⟨r,g⟩
    ·exact d ⟨r,g⟩
   ·rintro⟨a,b⟩;exact⟨⟨a,λ⟨r,g⟩=>b ⟨r,.inl g⟩⟩,λ⟨r,g⟩=>b ⟨r,.inr g⟩⟩
structure tI (A B:AR):Prop where
 ob:Ob A B
 sub:∀j y,ib B j y->ib A j y
 tk:∀j y,fT B j y↔fT A j y/\(ib A j y->ib B j y)
theorem tI.trans {B C:AR}(h:tI A B)(k:tI B C):tI A C:=
 ⟨⟨k.ob.ga,h.ob.kp.trans k.ob.kp,k.ob.runs.trans h.ob.runs⟩,λj y g=>h.sub j y (k.sub j y g),λj y=>by
  rw[k.tk,h.tk];exact⟨λ⟨⟨a,b⟩,d⟩=>⟨a,λe=>d (b e)⟩,λ⟨a,b⟩=>⟨⟨a,λe=>k.sub j y (b e)⟩,λe=>b (h.sub j y e)⟩⟩⟩
theorem Mh (h:GA A)(hk:k<A.tb.length):tI A (vQ A k):=by
 obtain⟨c,G,t,E,m⟩:=h.cl hk;have u:k<A.cQ.length:=by rw[h.lt];exact hk
 have e:vQ A k=t.out.foldl (λA' w=>Z0 A' (k:Int) w) {A with cQ:=A.cQ.set k t.tick}:=by unfold vQ;rw[m]
 have C:t.bs=t.out++t.tick.bs:=(nY ((t.low+1)/2) t.bs).symm;have i:t.bs.flatten=t.out.flatten++t.tick.bs.flatten:=by conv=>lhs;rw[C];rw[List.flatten_append]
 have r:=h.qA k t m;rw[i]at r;have g:=nb.1 r;have p:∀x∈t.bs.flatten,fT A k x:=λx d=>(VP E).2 (h.mq k c G t E m x d);have H:GA {A with cQ:=A.cQ.set k t.tick}:=h.j6 g.2.1 (λx d=>p x (by rw[i];exact nZ _ d)) λF B w z=>h.pN k F t B m w (t.pZ w z);obtain⟨o,e2,D⟩:=Dr k t.out H g.1 λx d=>by
  refine⟨p x (by rw[i];exact kG _ d),?_⟩;rw[Am u];rintro(⟨_,hy⟩|⟨hy,_⟩)
  ·exact g.2.2 x d x hy rfl
  ·exact hy rfl
 rw[←e]at o e2 D;have s:∀j y,ib (vQ A k) j y↔(j=k/\y∈t.tick.bs.flatten)\/(j≠k/\ib A j y):=λj y=>by
  rw[←Am u];unfold ib;rw[e2]
 refine⟨⟨o.ga,(Kp.aG rfl rfl rfl rfl:Kp A {A with cQ:=A.cQ.set k t.tick}).trans o.kp,o.runs⟩,λj y d=>?_,λj y=>?_⟩
 ·rcases(s j y).1 d with⟨rfl,hy⟩|⟨_,hy⟩
  ·rw[GV m,i];exact nZ _ hy
  ·exact hy
 ·rw[D,s];show fT A j y/\_↔_;by_cases hjk:j=k
  ·subst hjk;rw[GV m,i,zM];constructor
   ·rintro⟨a,b⟩;refine⟨a,λd=>?_⟩;rcases d with d|d
    ·exact(b ⟨rfl,d⟩).elim
    ·exact .inl ⟨rfl,d⟩
   ·rintro⟨a,b⟩;refine⟨a,λ⟨_,d⟩=>?_⟩;rcases b (.inl d)with⟨_,hy⟩|⟨hy,_⟩
    ·exact g.2.2 y d y hy rfl
    ·exact hy rfl
  ·exact⟨λ⟨a,_⟩=>⟨a,λd=>.inr ⟨hjk,d⟩⟩,λ⟨a,_⟩=>⟨a,λ⟨d,_⟩=>hjk d⟩⟩
theorem EV (h:GA A):∀m,m<=A.tb.length->tI A ((List.range m).foldl vQ A)
 | 0,_=>⟨⟨h,Kp.refl A,rfl⟩,λ_ _=>id,λ_ _=>⟨λa=>⟨a,id⟩,λa=>a.1⟩⟩
 | m+1,hm=>by
  have t:=EV h m O;rw[oU,vS,rD,List.foldl_nil];exact t.trans (Mh t.ob.ga (by rw[t.ob.kp.tb];omega))
theorem Oe (h:GA A):tI A (su A):=EV h _ (by rw[h.lt];exact zD _)
end Go.Ar
namespace Go.Ar
open Go.Bu (ZG Kj ZD qI VM dH take KR Vt Bounded)
variable {A:AR}{sp:Sp}{k:Nat}{c:cA}{ss:List cH}
end Go.Ar
namespace Go.Ar
structure Pc where
 k:Nat
 cls:Int
 addr:Nat
 size:Nat
 eU:Bool
 deriving DecidableEq
structure Wd where
 tb:List cA
 sp:Sp
 bZ:List AR
 held:List Pc
structure Act where
 kd:Int
 ar:Int
 cl:Int
 a:Int
 b:Int
 l:List Int
abbrev Key:=Nat×Int×Nat
def Pc.key (p:Pc):Key:=(p.k,p.cls,p.addr)
def lS (k:Nat)(cls x:Int)(p:Pc):Bool:=p.k==k&&(p.cls==cls&&((p.addr:Int)==x && !p.eU))
def vJ (held:List Pc)(k:Nat)(cls x:Int):Option Nat:=held.findIdx? (lS k cls x)
def jo (held:List Pc)(k:Nat)(cls:Int)(l:List Int):Bool:=l.all (λx=>(vJ held k cls x).isSome)&&decide l.Nodup
def lP (k:Nat)(cls:Int)(held:List Pc)(x:Int):List Pc:=match vJ held k cls x with
 | some i=>held.take i++held.drop (i+1)
 | none=>held
def xe (held:List Pc)(k:Nat)(cls:Int)(l:List Int):List Pc:=l.foldl (lP k cls) held
def eB (k:Nat)(cls:Int)(l:List Int)(p:Pc):Bool:=p.k==k&&(p.cls==cls&&l.contains (p.addr:Int))
def Gw (held:List Pc)(k:Nat)(cls:Int)(l:List Int)(m:Bool):List Pc:=held.map λp=>if eB k cls l p then{p with eU:=m}else p
def Ff (held:List Pc)(x:Int):Bool:=held.any λp=>decide ((p.addr:Int)<=x)&&decide (x-(p.addr:Int)<(p.size:Int))
def yu (us:List AR)(held:List Pc):List Pc:=held.filter λp=>!p.eU||(match us[p.k]? with
 | some A=>xM A (p.addr:Int)
 | none=>false)
def pz (tb:List cA)(k:Int):Nat:=((tb[k.toNat]?).map (·.size)).getD 0
def Wd.put (W:Wd)(k:Nat)(A:AR)(sp:Sp)(held:List Pc):Wd:={W with sp:=sp,bZ:=W.bZ.set k A,held:=held}
def Hd (A:AR)(p:Pc):Prop:=(p.cls = -1/\p.eU=false/\∃r∈A.runs,p.addr=r.1*256/\p.size=r.2*256) ∨
 ∃(j:Nat) (c:cA),p.cls=j/\A.tb[j]?=some c/\p.size=c.size/\fT A j (p.addr:Int)/\(p.eU=true↔ib A j (p.addr:Int))
structure WI (W:Wd):Prop where
 ga:∀(k:Nat) (A:AR),W.bZ[k]?=some A->GA A
 ow:∀(k:Nat) (A:AR),W.bZ[k]?=some A->Ow A W.sp
 tb:∀(k:Nat) (A:AR),W.bZ[k]?=some A->A.tb=W.tb
 low:∀(k:Nat) (A:AR),W.bZ[k]?=some A->∀p,p<16->A.f p=0
 own:∀p,gf W.sp.st p≠0->∃(k:Nat) (A:AR),W.bZ[k]?=some A/\A.f p≠0
 one:∀p (k l:Nat) (A B:AR),W.bZ[k]?=some A->W.bZ[l]?=some B->A.f p≠0->B.f p≠0->k=l
 hk:(W.held.map Pc.key).Nodup
 hf:∀p∈W.held,∃A,W.bZ[p.k]?=some A/\Hd A p
 ht:∀(k:Nat) (A:AR),W.bZ[k]?=some A->∀(j:Nat) (y:Int),fT A j y->∃p∈W.held,p.k=k/\p.cls=j/\(p.addr:Int)=y
 hr:∀(k:Nat) (A:AR),W.bZ[k]?=some A->∀r∈A.runs,∃p∈W.held,p.k=k/\p.cls = -1/\p.addr=r.1*256
variable {W:Wd}{k:Nat}{A:AR}
theorem VO {α:Type}{l:List α}{k j:Nat}{x y:α}(h:(l.set k x)[j]?=some y):(j=k/\y=x/\k<l.length)\/(j≠k/\l[j]?=some y):=by
 by_cases hjk:j=k
 ·subst hjk;have a:j<l.length:=by have:=(cX.1 h).1;simpa using this
  rw[zO a]at h;exact .inl ⟨rfl,(Option.some.inj h).symm,a⟩
 ·rw[zh (Ne.symm hjk)]at h;exact .inr ⟨hjk,h⟩
theorem WI.unique (h:WI W){p q:Pc}(hp:p∈W.held)(hq:q∈W.held)(e:p.key=q.key):p=q:=by
 obtain⟨i,hi⟩:=zP hp;obtain⟨j,d⟩:=zP hq;obtain⟨a,rfl⟩:=cX.1 hi;obtain⟨b,rfl⟩:=cX.1 d;have:=mu.1 h.hk;rcases qn i j with hl|hl|hl
 ·exact(this i j (by simpa using a) (by simpa using b) hl (by simpa using e)).elim
 ·subst hl;rfl
 ·exact(this j i (by simpa using b) (by simpa using a) hl (by simpa using e.symm)).elim
theorem WI.step (h:WI W)(hk:W.bZ[k]?=some A){B:AR}{sp':Sp}{held':List Pc}(s:St A B W.sp sp')(h1:(held'.map Pc.key).Nodup)(h2:∀p∈held',p.k=k->Hd B p)(h3:∀p,p.k≠k->(p∈held'↔p∈W.held))
 (h4:∀(j:Nat) (y:Int),fT B j y->∃p∈held',p.k=k/\p.cls=j/\(p.addr:Int)=y) (h5:∀r∈B.runs,∃p∈held',p.k=k/\p.cls = -1/\p.addr=r.1*256):WI (W.put k B sp' held'):=by
 have G:=(cX.1 hk).1;have u:(W.bZ.set k B)[k]?=some B:=zO G;have K:∀{j:Nat} {C:AR},j≠k->W.bZ[j]?=some C->(W.bZ.set k B)[j]?=some C:=λa g=>(zh (Ne.symm a)).trans g;have m:∀{j:Nat} {C:AR},j≠k->W.bZ[j]?=some C->∀p,C.f p≠0->A.f p=0/\B.f p=0/\gf sp'.st p=gf W.sp.st p:=by
  intro j C a g p b;have w:A.f p=0:=Classical.byContradiction λz=>a (h.one p j k C A g hk b z);have x:B.f p=0:=Classical.byContradiction λz=>by
   have:=(s.new p w z).1;exact(h.ow j C g).own p b this
  exact⟨w,x,s.same p w x⟩
 refine⟨λj C a=>?_,λj C a=>?_,λj C a=>?_,λj C a p b=>?_,λp b=>?_,λp j l C D a J g E=>?_,h1,λp b=>?_,λj C a i y H=>?_,λj C a r hr=>?_⟩
 ·rcases VO a with⟨rfl,rfl,_⟩|⟨_,a⟩
  ·exact s.ga
  ·exact h.ga j C a
 ·rcases VO a with⟨rfl,rfl,_⟩|⟨d,a⟩
  ·exact s.ow
  ·have o:=h.ow j C a;have L:=h.ow k A hk;refine⟨?_,λp b=>?_,λp b=>?_,s.ow.le⟩
   ·show sp'.st.length=C.n;rw[s.ow.l,s.n,←L.l,o.l]
   ·show gf sp'.st p≠0;rw[(m d a p b).2.2];exact o.own p b
   ·show gf sp'.st p=1;rw[(m d a p O).2.2];exact o.cl p b
 ·rcases VO a with⟨rfl,rfl,_⟩|⟨_,a⟩
  ·exact s.tb.trans (h.tb _ A hk)
  ·exact h.tb j C a
 ·rcases VO a with⟨rfl,rfl,_⟩|⟨_,a⟩
  ·apply Classical.byContradiction;intro z;have:=s.new p (h.low _ A hk p b) z;omega
  ·exact h.low j C a p b
 ·have b:gf sp'.st p≠0:=b;by_cases x:B.f p=0
  ·by_cases w:A.f p=0
   ·rw[s.same p w x]at b;obtain⟨j,C,a,g⟩:=h.own p b;have d:j≠k:=by
     rintro rfl;rw[hk]at a;cases a;exact g w
    exact⟨j,C,K d a,g⟩
   ·exact(b (s.gone p w x)).elim
  ·exact⟨k,B,u,x⟩
 ·rcases VO a with⟨rfl,rfl,_⟩|⟨d,hj'⟩
  ·rcases VO J with⟨rfl,rfl,_⟩|⟨hne2,hl'⟩
   ·rfl
   ·exact(g (m hne2 hl' p E).2.1).elim
  ·rcases VO J with⟨rfl,rfl,_⟩|⟨hne2,hl'⟩
   ·exact(E (m d hj' p g).2.1).elim
   ·exact h.one p j l C D hj' hl' g E
 ·by_cases hpk:p.k=k
  ·exact⟨B,by rw[hpk];exact u,h2 p b hpk⟩
  ·obtain⟨C,g,M⟩:=h.hf p ((h3 p hpk).1 b);exact⟨C,K hpk g,M⟩
 ·rcases VO a with⟨rfl,rfl,_⟩|⟨d,a⟩
  ·exact h4 i y H
  ·obtain⟨p,b,e1,e2,F⟩:=h.ht j C a i y H;exact⟨p,(h3 p (by rw[e1];exact d)).2 b,e1,e2,F⟩
 ·rcases VO a with⟨rfl,rfl,_⟩|⟨d,a⟩
  ·exact h5 r hr
  ·obtain⟨p,b,e1,e2,F⟩:=h.hr j C a r hr;exact⟨p,(h3 p (by rw[e1];exact d)).2 b,e1,e2,F⟩
theorem Hd.to {B:AR}{p:Pc}(h:Hd A p)(e1:B.tb=A.tb)(e2:B.runs=A.runs)(e3:∀j y,fT A j y->fT B j y)(e4:∀j y,ib B j y↔ib A j y):Hd B p:=by
 rcases h with⟨h1,h2,r,hr,h3⟩|⟨j,c,h1,h2,h3,h4,h5⟩
 ·exact .inl ⟨h1,h2,r,by rw[e2];exact hr,h3⟩
 ·exact .inr ⟨j,c,h1,by rw[e1];exact h2,h3,e3 _ _ h4,by rw[e4];exact h5⟩
theorem WI.hd (h:WI W)(hk:W.bZ[k]?=some A){p:Pc}(hp:p∈W.held)(e:p.k=k):Hd A p:=by
 obtain⟨C,a,b⟩:=h.hf p hp;rw[e,hk]at a;cases a;exact b
theorem WI.mi (h:WI W)(hk:W.bZ[k]?=some A){B:AR}{sp':Sp}(s:St A B W.sp sp')(e2:B.runs=A.runs)(e3:∀j y,fT B j y↔fT A j y)(e4:B.cQ=A.cQ):WI (W.put k B sp' W.held):=
 h.step hk s h.hk (λp b e=>(h.hd hk b e).to s.tb e2 (λj y=>(e3 j y).2) λj y=>by unfold ib;rw[e4]) (λ_ _=>Iff.rfl) (λj y a=>h.ht k A hk j y ((e3 j y).1 a)) λr hr=>h.hr k A hk r (by rw[←e2];exact hr)
theorem WI.cls (h:WI W){p:Pc}(hp:p∈W.held){j:Nat}(e:p.cls=j)(hk:W.bZ[p.k]?=some A):∃c,A.tb[j]?=some c/\p.size=c.size/\fT A j (p.addr:Int)/\(p.eU=true↔ib A j (p.addr:Int)):=by
 rcases h.hd hk hp rfl with⟨h1,_⟩|⟨i,c,h1,h2,h3,h4,h5⟩
 ·omega
 ·obtain rfl:i=j:=by omega
  exact⟨c,h2,h3,h4,h5⟩
theorem WI.run (h:WI W){p:Pc}(hp:p∈W.held)(e:p.cls = -1)(hk:W.bZ[p.k]?=some A):p.eU=false/\∃r∈A.runs,p.addr=r.1*256/\p.size=r.2*256:=by
 rcases h.hd hk hp rfl with⟨_,h2⟩|⟨i,c,h1,_⟩
 ·exact h2
 ·omega
theorem Vm {k:Nat}{cls x:Int}{p:Pc}:lS k cls x p=true↔p.k=k/\p.cls=cls/\(p.addr:Int)=x/\p.eU=false:=by
 simp[lS]
theorem QE {k:Nat}{cls:Int}{l:List Int}{p:Pc}:eB k cls l p=true↔p.k=k/\p.cls=cls/\(p.addr:Int)∈l:=by
 simp[eB]
theorem Ni {held:List Pc}{k:Nat}{cls x:Int}{i:Nat}(h:vJ held k cls x=some i):∃p,held[i]?=some p/\lS k cls x p=true:=by
 obtain⟨hi,a,_⟩:=nV.1 h;exact⟨held[i],cW hi,a⟩
theorem Woj {held:List Pc}{k:Nat}{cls x:Int}{p:Pc}(hp:p∈held)(h:lS k cls x p=true):(vJ held k cls x).isSome=true:=by
 unfold vJ;rw[List.findIdx?_isSome,zy];exact⟨p,hp,h⟩
theorem Vs {held:List Pc}{k:Nat}{cls:Int}{l:List Int}:jo held k cls l=true↔(∀x∈l,∃p∈held,lS k cls x p=true)/\l.Nodup:=by
 unfold jo;rw[zF,kh,zV];refine and_congr_left λ_=>forall_congr' λx=>imp_congr_right λa=>?_;unfold vJ;rw[List.findIdx?_isSome,zy]
theorem S3 {held:List Pc}(hn:(held.map Pc.key).Nodup){i:Nat}{p:Pc}(hi:held[i]?=some p):held.take i++held.drop (i+1)=held.filter λq=>!(q.key==p.key):=by
 induction held generalizing i with
 | nil=>simp at hi
 | cons q l ih=>
  rw[zR,zr]at hn;cases i with
  | zero=>
   simp only[zx,Option.some.injEq]at hi;subst hi;have:l.filter (λr=>!(r.key==q.key))=l:=by
    rw[qH];intro r hr;have:r.key≠q.key:=λe=>hn.1 (zE.2 ⟨r,hr,e⟩);simpa using this
   simp[this]
  | succ i=>
   have hi:l[i]?=some p:=by simpa using hi
   have a:q.key≠p.key:=λe=>hn.1 (zE.2 ⟨p,zG hi,e.symm⟩);rw[vL,vX,lG,ih hn.2 hi,uA];have:(!(q.key==p.key))=true:=by simpa using a
   rw[this];rfl
theorem Ut {held:List Pc}(hn:(held.map Pc.key).Nodup)(f:Pc->Bool):((held.filter f).map Pc.key).Nodup:=hn.sublist (List.filter_sublist.map _)
theorem ET {k:Nat}{cls:Int}:∀(l:List Int) {held:List Pc},(held.map Pc.key).Nodup->(∀x∈l,∃p∈held,lS k cls x p=true)->l.Nodup->xe held k cls l=held.filter λp=>!eB k cls l p
 | [],held,_,_,_=>by
  have:∀p,eB k cls [] p=false:=λp=>by simp[eB]
  exact(qH.2 λp _=>by rw[this];rfl).symm
 | x::l,held,hn,ho,hl=>by
  obtain⟨p,w,A⟩:=ho x aA;obtain⟨i,hi⟩:=oQ.1 (Woj w A);obtain⟨q,B,j⟩:=Ni hi;have g:=zr.1 hl;have e1:lP k cls held x=held.filter λr=>!(r.key==q.key):=by unfold lP;rw[hi];exact S3 hn B
  obtain⟨q1,q2,q3,q4⟩:=Vm.1 j;have s:=ET l (held:=held.filter λr=>!(r.key==q.key)) (Ut hn _) (λy m=>by
   obtain⟨r,u,d⟩:=ho y (by simp[m]);refine⟨r,zJ.2 ⟨u,?_⟩,d⟩;have:r.key≠q.key:=λe=>by
    have C:r.addr=q.addr:=congrArg (λz:Key=>z.2.2) e;have:=(Vm.1 d).2.2.1;have:y=x:=by omega
    subst this;exact g.1 m
   simpa using this) g.2
  unfold xe at s ⊢;rw[rD,e1,s,C3];apply vP;intro r u;have e:(r.key==q.key)=(r.k==k&&(r.cls==cls&&(r.addr:Int)==x)):=by
   rw[kU];simp only[Pc.key,zU,zF,Prod.mk.injEq];constructor
   ·rintro⟨a,b,c⟩;exact⟨O,O,O⟩
   ·rintro⟨a,b,c⟩;exact⟨O,O,O⟩
  rw[e];unfold eB;rw[List.contains_cons];cases r.k==k<;>cases r.cls==cls<;>cases((r.addr:Int)==x)<;>cases l.contains (r.addr:Int)<;>rfl
theorem Ki {held:List Pc}{k:Nat}{cls:Int}{l:List Int}{m:Bool}{p:Pc}:p∈Gw held k cls l m↔∃q∈held,p=if eB k cls l q then{q with eU:=m}else q:=by
 unfold Gw;rw[zE];constructor
 ·rintro⟨q,hq,rfl⟩;exact⟨q,hq,rfl⟩
 ·rintro⟨q,hq,rfl⟩;exact⟨q,hq,rfl⟩
theorem Oh {held:List Pc}{k:Nat}{cls:Int}{l:List Int}{m:Bool}:(Gw held k cls l m).map Pc.key=held.map Pc.key:=by
 unfold Gw;rw[lI];apply kr;intro p _;simp only[Function.comp];split<;>rfl
theorem Ao (hk:W.bZ[k]?=some A)(h:WI W):WI (W.put k A W.sp W.held):=h.mi hk (St.refl (h.ga k A hk) (h.ow k A hk)) rfl (λ_ _=>Iff.rfl) rfl
theorem Wjg (h:GA A){j:Nat}{c:cA}{ss:List cH}(hc:Cl A j c ss){l:Nat}{s:cH}{i:Nat}(hs:ss[l]?=some s)(hi:i<c.n){x:Nat}(h1:at_ c s i<=x)(h2:x<at_ c s i+c.size):Hu A (x:Int)=some ((j:Int),at_ c s i):=by
 have d:=h.cG j c ss hc;have b:=GM d.pos hi h1 h2;have a:=h.used hc (zG hs) b.1 b.2;have g:=h.pg.lt (p:=x/256) (by rw[a.1];omega);have u:=h.pg.n2;have m:=hc.lt;have r:=h.tb;unfold Hu;rw[zB O,dG];simp only;rw[zC (show x/256<1024 by omega),a.2,zB O,zB O,Nat.add_sub_cancel,hc.1,hc.2];simp only;rw[(EF d).2 ⟨l,s,i,hs,hi,rfl,O,O⟩];rfl
theorem Lq (h:GA A){r:Nat×Nat}(hr:r∈A.runs){x:Nat}(h1:r.1*256<=x)(h2:x<(r.1+r.2)*256):Hu A (x:Int)=some (-1,r.1*256):=by
 have a:=h.jI hr (p:=x/256) O O;have b:=h.pg.lt (p:=x/256) (by rw[a.1];omega);have d:=h.pg.n2;unfold Hu;rw[zB O,dG];simp only;rw[zC (show x/256<1024 by omega),a.2,zB O,zC rfl,Bs h.pn hr O O];rfl
theorem OB (h:GA A){x:Int}{k:Int}{a:Nat}(hf:Hu A x=some (k,a)):(k = -1/\∃r∈A.runs,a=r.1*256/\((r.1*256:Nat):Int)<=x/\x<(((r.1+r.2)*256:Nat):Int)) ∨
 ∃(j:Nat) (c:cA) (ss:List cH) (l:Nat) (s:cH) (i:Nat),k=j/\Cl A j c ss/\ss[l]?=some s/\i<c.n/\a=at_ c s i/\((at_ c s i:Nat):Int)<=x/\x<((at_ c s i+c.size:Nat):Int):=by
 unfold Hu at hf;split at hf
 ·cases hf
 ·rename_i hx;obtain⟨y,rfl⟩:=zc (show 0<=x by omega);rw[dG]at hf;simp only at hf;by_cases hlt:y/256<1024
  ·rw[zC hlt]at hf;split at hf
   ·cases hf
   ·split at hf
    ·rename_i h0 h41;obtain⟨r,g,b⟩:=od.1 hf;have B:=uG g;have z:=uc g;simp at z;cases b;exact .inl ⟨rfl,r,B,rfl,O,O⟩
    ·rename_i h0 h41;split at hf
     ·rename_i c ss h1 h2;obtain⟨C,u,b⟩:=od.1 hf;cases b;have d:Cl A (A.ow (y/256)-1) c ss:=⟨h1,h2⟩;obtain⟨l,s,i,w,hi,rfl,m,p⟩:=(EF (h.cG _ _ _ d)).1 u;exact .inr ⟨_,c,ss,l,s,i,rfl,d,w,hi,rfl,m,p⟩
     ·cases hf
  ·rw[zB hlt,zC rfl]at hf;cases hf
theorem fT.find (h:GA A){j:Nat}{x:Int}(hx:fT A j x):∃y:Nat,x=y/\Hu A x=some ((j:Int),y):=by
 obtain⟨c,g,a,d⟩:=hx;have b:=h.cG j c g a;obtain⟨l,s,i,m,hi,rfl,p⟩:=(Uh b).1 d;exact⟨_,rfl,Wjg h a m hi (zD _) (by have:=b.pos;omega)⟩
theorem B1 (h:GA A){x:Int}:xM A x=true↔(∃j,fT A j x)\/∃r∈A.runs,x=((r.1*256:Nat):Int):=by
 constructor
 ·intro hx;unfold xM at hx;split at hx
  ·rename_i k a d;split at hx
   ·rename_i he;rcases OB h d with⟨rfl,r,hr,rfl,_⟩|⟨j,c,g,l,s,i,rfl,b,hs,hi,rfl,_⟩
    ·exact .inr ⟨r,hr,he.symm⟩
    ·rw[zB O,dG,b.1,b.2]at hx;exact .inl ⟨j,c,g,b,by simpa[Tk]using hx⟩
   ·cases hx
  ·cases hx
 ·rintro(⟨j,hj⟩|⟨r,hr,rfl⟩)
  ·obtain⟨y,rfl,d⟩:=hj.find h;obtain⟨c,g,b,m⟩:=hj;unfold xM;rw[d];simp only;rw[zC True.intro,zB O,dG,b.1,b.2];unfold Tk at m;show(eD c g (y:Int)==some true)=true;rw[m];rfl
  ·unfold xM;have:=h.gY r hr;rw[Lq h hr (zD _) O];simp
theorem WI.xu (h:WI W)(hk:W.bZ[k]?=some A){cl:Int}{l:List Int}(ho:jo W.held k cl l=true){j:Nat}(e:cl=j):∀x∈l,¬ib A j x:=by
 intro x hx hin;obtain⟨p,m,a⟩:=(Vs.1 ho).1 x hx;obtain⟨g,i,r,b⟩:=Vm.1 a;obtain⟨c,_,_,_,d⟩:=h.cls m (j:=j) (by rw[i,e]) (by rw[g];exact hk);rw[r]at d;rw[d.2 hin]at b;cases b
theorem WI.grow (h:WI W)(hk:W.bZ[k]?=some A)(x:Int):WI (W.put k (cP A W.sp x).1 (cP A W.sp x).2 W.held):=by
 obtain⟨s,e1,e2,a,_⟩:=T5 (h.ga k A hk) (h.ow k A hk) x;exact h.mi hk s e1 a e2
theorem WI.from (h:WI W)(hk:W.bZ[k]?=some A)(cl m:Int):WI (W.put k (YU A cl m) W.sp (W.held++(YC A cl m).map λy=>⟨k,cl,y,pz W.tb cl,false⟩)):=by
 obtain⟨o,e1,e2,K,E,z⟩:=Fk (h.ga k A hk) cl m;have tb:(YU A cl m).tb=A.tb:=o.kp.tb;have i:∀y∈YC A cl m,∃j:Nat,cl=j/\j<A.tb.length:=λy g=>K (λe=>by rw[e]at g;simp at g);have w:∀y∈YC A cl m,∀p∈W.held,¬(p.k=k/\p.cls=cl/\p.addr=y):=by
  rintro y g p d ⟨L,M,N⟩;obtain⟨j,rfl,_⟩:=i y g;obtain⟨c,_,_,ht,_⟩:=h.cls d M (by rw[L];exact hk);rw[N]at ht;exact E y g (by rw[dG];exact ht)
 refine h.step hk (o.st (h.ow k A hk)) ?_ (λp d e=>?_) (λp C=>?_) (λj y g=>?_) λr hr=>?_
 ·rw[zj,nb];refine⟨h.hk,?_,λa H b F e=>?_⟩
  ·rw[lI];exact List.Pairwise.map (R:=(· ≠ ·)) _ (λa b B e=>B (by simpa[Pc.key]using e)) e2
  ·subst e;obtain⟨p,d,rfl⟩:=zE.1 H;obtain⟨q,G,e⟩:=zE.1 F;obtain⟨y,g,rfl⟩:=zE.1 G;simp only[Pc.key,Prod.mk.injEq]at e;exact w y g p d ⟨e.1.symm,e.2.1.symm,e.2.2.symm⟩
 ·rcases zM.1 d with d|d
  ·exact(h.hd hk d e).to tb o.runs (λj y u=>(z j y).2 (.inl u)) λj y=>by unfold ib;rw[e1]
  ·obtain⟨y,g,rfl⟩:=zE.1 d;obtain⟨j,rfl,u⟩:=i y g;refine .inr ⟨j,A.tb[j],rfl,by rw[tb];exact cW u,?_,(z j y).2 (.inr ⟨(dG j).symm,y,g,rfl⟩),?_⟩
   ·show pz W.tb (j:Int)=_;unfold pz;rw[dG,←h.tb k A hk,cW u];rfl
   ·constructor
    ·intro hx;cases hx
    ·rintro⟨t,ht,hx⟩;rw[e1]at ht;obtain⟨c,J,P,D,s⟩:=(h.ga k A hk).cl u;rw[ht]at s;cases s;exact(E y g (by rw[dG];exact(VP D).2 ((h.ga k A hk).mq j c J t D ht _ hx))).elim
 ·rw[zM];constructor
  ·rintro(d|d)
   ·exact d
   ·obtain⟨y,_,rfl⟩:=zE.1 d;exact(C rfl).elim
  ·exact .inl
 ·rcases(z j y).1 g with g|⟨rfl,x,hx,rfl⟩
  ·obtain⟨p,d,q⟩:=h.ht k A hk j y g;exact⟨p,kG _ d,q⟩
  ·obtain⟨j,rfl,_⟩:=i x hx;exact⟨_,nZ _ (zE.2 ⟨x,hx,rfl⟩),rfl,by simp,rfl⟩
 ·rw[o.runs]at hr;obtain⟨p,d,q⟩:=h.hr k A hk r hr;exact⟨p,kG _ d,q⟩
theorem WI.yS (h:WI W){cl:Int}{l:List Int}(ho:jo W.held k cl l=true):xe W.held k cl l=W.held.filter λp=>!eB k cl l p:=
 ET l h.hk (Vs.1 ho).1 (Vs.1 ho).2
theorem WI.SP (h:WI W)(hk:W.bZ[k]?=some A){cl:Int}{l:List Int}(ho:jo W.held k cl l=true):WI (W.put k (Z0 A cl l) W.sp (if Kv A cl l=0 then xe W.held k cl l else W.held)):=by
 have ga:=h.ga k A hk;obtain⟨o,e1,e2,J⟩:=B4 ga (k:=cl) (xs:=l) λm x g=>by
  obtain⟨j,c,H,rfl,_⟩:=Cu ga m;rw[dG];exact h.xu hk ho rfl x g
 by_cases m:Kv A cl l=0
 ·rw[zC m,h.yS ho];obtain⟨j,c,H,rfl,N,M⟩:=Cu ga m;have e2:=e2 m;rw[dG]at e2;refine h.step hk (o.st (h.ow k A hk)) (Ut h.hk _) (λp s e=>?_) (λp C=>?_) (λi y G=>?_) λr hr=>?_
  ·have u:=zJ.1 s;have z:eB k (j:Int) l p=false:=by simpa using u.2
   rcases h.hd hk u.1 e with⟨h1,h2,r,hr,h3⟩|⟨i,d,h1,h2,h3,h4,h5⟩
   ·exact .inl ⟨h1,h2,r,by rw[o.runs];exact hr,h3⟩
   ·refine .inr ⟨i,d,h1,by rw[o.kp.tb];exact h2,h3,(e2 i _).2 ⟨h4,λ⟨a,b⟩=>?_⟩,by unfold ib at h5 ⊢;rw[e1];exact h5⟩;have:eB k (j:Int) l p=true:=QE.2 ⟨e,by rw[h1,a],b⟩;rw[z]at this;cases this
  ·rw[zJ];have:eB k (j:Int) l p=false:=by
    apply nM.2;intro g;exact C (QE.1 g).1
   rw[this];simp
  ·obtain⟨B,D⟩:=(e2 i y).1 G;obtain⟨p,s,E,F,w⟩:=h.ht k A hk i y B;refine⟨p,zJ.2 ⟨s,?_⟩,E,F,w⟩;have:eB k (j:Int) l p=false:=by
    apply nM.2;intro g;obtain⟨_,L,K⟩:=QE.1 g;exact D ⟨O,by rw[←w];exact K⟩
   rw[this];rfl
  ·rw[o.runs]at hr;obtain⟨p,s,E,F,w⟩:=h.hr k A hk r hr;refine⟨p,zJ.2 ⟨s,?_⟩,E,F,w⟩;have:eB k (j:Int) l p=false:=by
    apply nM.2;intro g;have:=(QE.1 g).2.1;omega
   rw[this];rfl
 ·rw[zB m,J m];exact Ao hk h
theorem WI.move (h:WI W)(hk:W.bZ[k]?=some A){B:AR}{j:Nat}{l:List Int}{m:Bool}(o:Ob A B)(e1:∀i y,fT B i y↔fT A i y)(e2:∀i y,ib B i y↔if i=j/\y∈l then m=true else ib A i y):WI (W.put k B W.sp (Gw W.held k (j:Int) l m)):=by
 refine h.step hk (o.st (h.ow k A hk)) (by rw[Oh];exact h.hk) (λp b e=>?_) (λp a=>?_) (λi y g=>?_) λr hr=>?_
 ·obtain⟨q,x,rfl⟩:=Ki.1 b;have d:q.k=k:=by
   split at e<;>exact e
  rcases h.hd hk x d with⟨h1,h2,r,hr,h3⟩|⟨i,c,h1,h2,h3,h4,h5⟩
  ·have:eB k (j:Int) l q=false:=by
    apply nM.2;intro hx;have:=(QE.1 hx).2.1;omega
   rw[this];exact .inl ⟨h1,h2,r,by rw[o.runs];exact hr,h3⟩
  ·by_cases hx:eB k (j:Int) l q=true
   ·rw[zC hx];obtain⟨_,D,C⟩:=QE.1 hx;have s:i=j:=by omega
    refine .inr ⟨i,c,h1,by rw[o.kp.tb];exact h2,h3,(e1 _ _).2 h4,?_⟩;show m=true↔ib B i (q.addr:Int);rw[e2,zC ⟨s,C⟩]
   ·rw[zB hx];refine .inr ⟨i,c,h1,by rw[o.kp.tb];exact h2,h3,(e1 _ _).2 h4,?_⟩;rw[e2,zB λg=>hx (QE.2 ⟨d,by rw[h1,g.1],g.2⟩)];exact h5
 ·rw[Ki];constructor
  ·rintro⟨q,x,rfl⟩;have:eB k (j:Int) l q=false:=by
    apply nM.2;intro hx;rw[zC hx]at a;exact a (QE.1 hx).1
   rw[this];exact x
  ·intro b;refine⟨p,b,?_⟩;have:eB k (j:Int) l p=false:=by
    apply nM.2;intro hx;exact a (QE.1 hx).1
   rw[this];rfl
 ·obtain⟨p,b,u,w,z⟩:=h.ht k A hk i y ((e1 i y).1 g);refine⟨_,Ki.2 ⟨p,b,rfl⟩,?_,?_,?_⟩
  ·split<;>exact u
  ·split<;>exact w
  ·split<;>exact z
 ·rw[o.runs]at hr;obtain⟨p,b,u,w,z⟩:=h.hr k A hk r hr;refine⟨_,Ki.2 ⟨p,b,rfl⟩,?_,?_,?_⟩
  ·split<;>exact u
  ·split<;>exact w
  ·split<;>exact z
theorem Rj {held:List Pc}{k:Nat}{cls:Int}{m:Bool}:Gw held k cls [] m=held:=by
 unfold Gw;have:∀p,eB k cls [] p=false:=λp=>by simp[eB]
 simp[this]
theorem WI.xj (h:WI W)(hk:W.bZ[k]?=some A)(cl:Int):WI (W.put k (Z3 A cl) W.sp (Gw W.held k cl (YR A cl) false)):=by
 obtain⟨o,e1,e2,s,m,a⟩:=Iz (h.ga k A hk) cl;by_cases hv:YR A cl=[]
 ·rw[hv,Rj];have g:∀j y,ib (Z3 A cl) j y↔ib A j y:=λj y=>by rw[a,hv];simp
  refine h.step hk (o.st (h.ow k A hk)) h.hk (λp d e=>(h.hd hk d e).to o.kp.tb o.runs (λj y=>(e1 j y).2) g) (λ_ _=>Iff.rfl) (λj y b=>h.ht k A hk j y ((e1 j y).1 b)) λr hr=>h.hr k A hk r (by rw[←o.runs];exact hr)
 ·obtain⟨j,rfl,_⟩:=m hv;rw[dG]at a;exact h.move hk o e1 λi y=>by
   rw[a];split
   ·rename_i hx;simp[hx]
   ·rename_i hx;simp[hx]
theorem WI.PZ (h:WI W)(hk:W.bZ[k]?=some A){cl:Int}{l:List Int}(ho:jo W.held k cl l=true):WI (W.put k (KH A cl l) W.sp (if VR A cl l then Gw W.held k cl l true else W.held)):=by
 by_cases a:VR A cl l=true
 ·have b:∃j:Nat,cl=j:=by
   have d:H9 A cl l=0:=by
    unfold VR at a;simp only[zF,zV]at a;exact a.1
   have b:A.ck cl=true:=by
    unfold H9 at d;split at d
    ·assumption
    ·cases d
   obtain⟨j,g,_⟩:=H8.1 b;exact⟨j,g⟩
  obtain⟨j,rfl⟩:=b;obtain⟨o,e1,e2,_⟩:=Ο (h.ga k A hk) (j:Int) (xs:=l) (Vs.1 ho).2 (by rw[dG];exact h.xu hk ho rfl);obtain⟨_,_,e2⟩:=e2 a;rw[dG]at e2;rw[a,zC rfl];exact h.move hk o e1 λi y=>by
   rw[e2];split
   ·rename_i hx;simp[hx]
   ·rename_i hx;simp[hx]
 ·have a:VR A cl l=false:=by simpa using a
  have e:KH A cl l=A:=by unfold KH;rw[a];rfl
  rw[a,e];exact Ao hk h
theorem WI.xD (h:WI W)(hk:W.bZ[k]?=some A)(m a:Int):WI (W.put k (cC A W.sp m a).1 (cC A W.sp m a).2 (if Q8 A W.sp m a=0 then W.held++[⟨k, -1,QF A W.sp m a*256,m.toNat*256,false⟩]else W.held)):=by
 rcases Pe (h.ga k A hk) (h.ow k A hk) m a with⟨e,hE,_⟩|⟨x,A1,sp1,g,hE,hV,e,htk,hor,s,et,ek⟩
 ·rw[zB hE,e];exact Ao hk h
 ·rw[zC hE,hV];have u:(cC A W.sp m a).1.runs=A.runs++[(x,m.toNat)]:=by rw[e]
  have z:∀r∈A.runs,r.1≠x:=by
   have hd:=s.ga.kB;rw[u]at hd;intro r hr e2;have w:=(qE.1 hd).2.2 r hr (x,m.toNat) aA;have B:=(h.ga k A hk).gY r hr;have i:=s.ga.gY (x,m.toNat) (by rw[u];simp);simp only at w i;omega
  refine h.step hk s ?_ (λp g e=>?_) (λp C=>?_) (λj y E=>?_) λr hr=>?_
  ·rw[zj,nb];refine⟨h.hk,by simp,λb D d hd e2=>?_⟩;subst e2;obtain⟨p,g,rfl⟩:=zE.1 D;simp only[zR,oW,zN,Pc.key,Prod.mk.injEq]at hd;obtain⟨_,r,hr,i,_⟩:=h.run g hd.2.1 (A:=A) (by rw[hd.1];exact hk);exact z r hr O
  ·rcases zM.1 g with g|g
   ·rcases h.hd hk g e with⟨w,B,r,hr,i⟩|⟨j,c,w,B,i,h4,h5⟩
    ·exact .inl ⟨w,B,r,by rw[u];exact kG _ hr,i⟩
    ·exact .inr ⟨j,c,w,by rw[s.tb];exact B,i,(ek _ _).2 h4,by unfold ib at h5 ⊢;rw[et];exact h5⟩
   ·simp only[zN]at g;subst g;exact .inl ⟨rfl,rfl,(x,m.toNat),by rw[u];simp,rfl,rfl⟩
  ·rw[zM];constructor
   ·rintro(g|g)
    ·exact g
    ·simp only[zN]at g;subst g;exact(C rfl).elim
   ·exact .inl
  ·obtain⟨p,g,q⟩:=h.ht k A hk j y ((ek j y).1 E);exact⟨p,kG _ g,q⟩
  ·rw[u]at hr;rcases zM.1 hr with hr|hr
   ·obtain⟨p,g,q⟩:=h.hr k A hk r hr;exact⟨p,kG _ g,q⟩
   ·simp only[zN]at hr;subst hr;exact⟨_,nZ _ (zN.2 rfl),rfl,rfl,rfl⟩
theorem WI.m5 (h:WI W)(hk:W.bZ[k]?=some A){r:Nat×Nat}(hr:r∈A.runs):jo W.held k (-1) [(r.1:Int)*256]=true:=by
 refine Vs.2 ⟨λx b=>?_,by simp⟩;simp only[zN]at b;subst b;obtain⟨p,a,g,d,i⟩:=h.hr k A hk r hr;exact⟨p,a,Vm.2 ⟨g,d,O,(h.run a d (by rw[g];exact hk)).1⟩⟩
theorem WI.yf (h:WI W)(hk:W.bZ[k]?=some A)(x:Int):WI (W.put k (Kc A x) W.sp (if VB A x=0 then xe W.held k (-1) [x*256]else W.held)):=by
 have ga:=h.ga k A hk;obtain⟨⟨kp,g⟩,L,J,e1,e2⟩:=MK ga x;by_cases h0:VB A x=0
 ·rw[zC h0];obtain⟨r,hr,rfl,H⟩:=e2 h0;rw[h.yS (h.m5 hk hr)];have d:∀p:Pc,eB k (-1) [(r.1:Int)*256] p=true↔p.k=k/\p.cls = -1/\p.addr=r.1*256:=λp=>by
   rw[QE];simp only[zN];constructor
   ·rintro⟨a,b,c⟩;exact⟨a,b,O⟩
   ·rintro⟨a,b,c⟩;exact⟨a,b,O⟩
  refine h.step hk (St.kp g (h.ow k A hk) kp) (Ut h.hk _) (λp u e=>?_) (λp C=>?_) (λi y K=>?_) λq m=>?_
  ·have w:=zJ.1 u;have s:¬eB k (-1) [(r.1:Int)*256] p=true:=by simpa using w.2
   rw[d]at s;rcases h.hd hk w.1 e with⟨h1,h2,q,m,z⟩|⟨j,c,h1,h2,z,G,B⟩
   ·refine .inl ⟨h1,h2,q,?_,z⟩;rw[H,zJ];refine⟨m,?_⟩;have:q≠r:=by rintro rfl;exact s ⟨e,h1,z.1⟩
    simpa using this
   ·exact .inr ⟨j,c,h1,by rw[kp.tb];exact h2,z,(J _ _).2 G,by unfold ib at B ⊢;rw[L];exact B⟩
  ·rw[zJ];have:eB k (-1) [(r.1:Int)*256] p=false:=by
    apply nM.2;intro hx;exact C (QE.1 hx).1
   rw[this];simp
  ·obtain⟨p,u,D,E,F⟩:=h.ht k A hk i y ((J i y).1 K);refine⟨p,zJ.2 ⟨u,?_⟩,D,E,F⟩;have:eB k (-1) [(r.1:Int)*256] p=false:=by
    apply nM.2;intro hx;have:=((d p).1 hx).2.1;omega
   rw[this];rfl
  ·rw[H,zJ]at m;obtain⟨p,u,D,E,F⟩:=h.hr k A hk q m.1;refine⟨p,zJ.2 ⟨u,?_⟩,D,E,F⟩;have:eB k (-1) [(r.1:Int)*256] p=false:=by
    apply nM.2;intro hx;have z:=((d p).1 hx).2.2;have G:=ga.gY q m.1;have B:=ga.gY r hr;have:q=r:=ga.gW m.1 hr (x:=q.1) O O O O;subst this;simp at m
   rw[this];rfl
 ·rw[zB h0,e1 h0];exact Ao hk h
theorem WI.tick (h:WI W)(hk:W.bZ[k]?=some A):WI (W.put k (su A) W.sp (yu (W.bZ.set k (su A)) W.held)):=by
 have ga:=h.ga k A hk;have t:=Oe ga;have D:=(cX.1 hk).1;have d:(W.bZ.set k (su A))[k]?=some (su A):=zO D;have bS:∀p∈W.held,p∈yu (W.bZ.set k (su A)) W.held↔(p.k=k->∀j:Nat,p.cls=j->fT (su A) j (p.addr:Int)):=by
  intro p a;unfold yu;rw[zJ];simp only[a,tU,nT,mS];by_cases hpk:p.k=k
  ·rw[hpk,d];simp only[true_implies];rcases h.hd hk a hpk with⟨h1,h2,r,hr,h3⟩|⟨j,c,h1,h2,h3,h4,h5⟩
   ·exact⟨λ_ j m=>O,λ_=>.inl h2⟩
   ·constructor
    ·intro hx i hi;obtain rfl:i=j:=by omega
     rcases hx with hx|hx
     ·refine(t.tk i _).2 ⟨h4,λw=>?_⟩;rw[h5.2 w]at hx;cases hx
     ·rcases(B1 t.ob.ga).1 hx with⟨j',hj'⟩|⟨r,hr,e⟩
      ·obtain⟨y,e,hf⟩:=((t.tk j' _).1 hj').1.find ga;obtain⟨K,J,b⟩:=h4.find ga;rw[hf]at b;have:j'=i:=by
        have:=congrArg Prod.fst (Option.some.inj b);simp only at this;omega
       rw[←this];exact hj'
      ·rw[t.ob.runs]at hr;have:=ga.gY r hr;have H:=Lq ga hr (x:=r.1*256) (zD _) O;obtain⟨K,J,b⟩:=h4.find ga;rw[e,H]at b;have:=congrArg Prod.fst (Option.some.inj b);simp only at this;omega
    ·intro hx;by_cases hm:p.eU=true
     ·exact .inr ((B1 t.ob.ga).2 (.inl ⟨j,hx j h1⟩))
     ·exact .inl (by simpa using hm)
  ·constructor
   ·intro _ hx;exact(hpk hx).elim
   ·intro _;obtain⟨C,E,G⟩:=h.hf p a;rw[zh (Ne.symm hpk),E];rcases G with⟨h1,h2,_⟩|⟨j,c,_,_,_,h4,_⟩
    ·exact .inl h2
    ·exact .inr ((B1 (h.ga _ C E)).2 (.inl ⟨j,h4⟩))
 have sub:∀p,p∈yu (W.bZ.set k (su A)) W.held->p∈W.held:=λp a=>(zJ.1 a).1;refine h.step hk (t.ob.st (h.ow k A hk)) (Ut h.hk _) (λp a e=>?_) (λp s=>⟨sub p,λa=>(bS p a).2 λe=>(s e).elim⟩) (λj y F=>?_) λr hr=>?_
 ·have B:=(bS p (sub p a)).1 a e;rcases h.hd hk (sub p a) e with⟨h1,h2,r,hr,h3⟩|⟨j,c,h1,h2,h3,h4,h5⟩
  ·exact .inl ⟨h1,h2,r,by rw[t.ob.runs];exact hr,h3⟩
  ·have m:=B j h1;refine .inr ⟨j,c,h1,by rw[t.ob.kp.tb];exact h2,h3,m,?_⟩;rw[h5];exact⟨((t.tk j _).1 m).2,t.sub j _⟩
 ·obtain⟨p,a,u,z,g⟩:=h.ht k A hk j y ((t.tk j y).1 F).1;refine⟨p,(bS p a).2 λ_ i hi=>?_,u,z,g⟩;obtain rfl:i=j:=by omega
  rw[g];exact F
 ·rw[t.ob.runs]at hr;obtain⟨p,a,u,z,g⟩:=h.hr k A hk r hr;exact⟨p,(bS p a).2 λ_ i hi=>O,u,z,g⟩
theorem WI.pJ (h:WI W){p:Pc}(hp:p∈W.held)(hk:W.bZ[p.k]?=some A){x:Nat}(h1:p.addr<=x)(h2:x<p.addr+p.size):A.f (x/256)=1:=by
 have ga:=h.ga _ A hk;rcases h.hd hk hp rfl with⟨_,_,r,hr,e1,e2⟩|⟨j,c,_,hc,e1,ht,_⟩
 ·exact(ga.jI hr O O).1
 ·obtain⟨b,m,a,d⟩:=ht;have:b=c:=Option.some.inj (a.1.symm.trans hc);subst this;have g:=ga.cG j b m a;obtain⟨l,s,i,u,hi,e,_⟩:=(Uh g).1 d;have w:p.addr=at_ b s i:=Int.ofNat.inj e;have:=GM g.pos hi (s:=s) (x:=x) O O;exact(ga.used a (zG u) this.1 this.2).1
theorem WI.write (h:WI W){x v:Int}(hi:Ff W.held x=true):WI {W with sp:=ZL W.sp x v}:=by
 unfold Ff at hi;rw[zy]at hi;obtain⟨p,m,u⟩:=hi;simp only[zF,zV]at u;obtain⟨y,rfl⟩:=zc (show 0<=x by omega);obtain⟨A,hk,_⟩:=h.hf p m;have w:=h.pJ m hk (x:=y) O O;have r:=(h.ow _ A hk).own (y/256) O;by_cases hacc:eO W.sp (y:Int)=0
 ·have e:(ZL W.sp (y:Int) v).st=W.sp.st.set (y/256) 2:=by
   unfold ZL;rw[zC hacc];show W.sp.st.set (_/32) 2=_;rw[dG,show y/8/32=y/256 by omega]
  have d:=LG r;have g:∀q,gf (ZL W.sp (y:Int) v).st q=if q=y/256 then 2 else gf W.sp.st q:=λq=>by
   rw[e];unfold gf;simp only[zQ];by_cases a:q=y/256
   ·subst a;rw[zO d,zC rfl];rfl
   ·rw[zh (Ne.symm a),zB a]
  have i:∀q,gf (ZL W.sp (y:Int) v).st q≠0↔gf W.sp.st q≠0:=λq=>by
   rw[g];split
   ·rename_i a;subst a;simp[r]
   ·exact Iff.rfl
  refine⟨h.ga,λj C b=>?_,h.tb,h.low,λq a=>h.own q ((i q).1 a),h.one,h.hk,h.hf,h.ht,h.hr⟩;have o:=h.ow j C b;refine⟨by show(ZL W.sp (y:Int) v).st.length=_;rw[e,oS];exact o.l,λq a=>(i q).2 (o.own q a),λq a=>?_,λq=>?_⟩
  ·show gf (ZL W.sp (y:Int) v).st q=1;rw[g,zB]
   ·exact o.cl q a
   ·rintro rfl;have s:j=p.k:=h.one (y/256) j p.k C A b hk O O;subst s;rw[hk]at b;cases b;omega
  ·show gf (ZL W.sp (y:Int) v).st q<=2;rw[g];have:=o.le q;split<;>omega
 ·have e:ZL W.sp (y:Int) v=W.sp:=by unfold ZL;rw[zB hacc]
  rw[e];exact h
theorem fT.lt (h:GA A){j:Nat}{x:Int}(hx:fT A j x):∃y:Nat,x=y/\y<262144:=by
 obtain⟨c,m,b,g⟩:=hx;have a:=h.cG j c m b;obtain⟨l,s,i,r,hi,rfl,w⟩:=(Uh a).1 g;have d:=GM a.pos (s:=s) (x:=at_ c s i) hi (zD _) (by have:=a.pos;omega);have u:=(h.used b (zG r) d.1 d.2).1;have:=h.pg.lt (p:=at_ c s i/256) O;have:=h.pg.n2;exact⟨_,rfl,O⟩
theorem WI.jQ (h:WI W){p:Pc}(hp:p∈W.held):p.addr<262144/\p.addr+p.size<=270000:=by
 obtain⟨A,m,d⟩:=h.hf p hp;have ga:=h.ga _ A m;have x:=ga.pg.n2;rcases d with⟨_,_,r,hr,h1,h2⟩|⟨j,c,_,hc,h2,h3,_⟩
 ·have u:=ga.fit hr;have w:=ga.gY r hr;omega
 ·obtain⟨y,e,s⟩:=h3.lt ga;obtain⟨g,i,a,_⟩:=h3;have:g=c:=Option.some.inj (a.1.symm.trans hc);subst this;have b:=(ga.cG j _ i a).ok;unfold cA.ok at b;omega
theorem Jr:∀(N:Nat) (l:List Nat),l.Nodup->(∀x∈l,x<N)->l.length<=N
 | 0,l,_,h=>by
  cases l with
  | nil=>simp
  | cons x l=>have:=h x aA;omega
 | N+1,l,hn,h=>by
  have i:=Jr N (l.filter (· != N)) (hn.sublist ua) λx b=>by
   have b:=zJ.1 b;have:=h x b.1;have:x≠N:=by simpa using b.2
   omega
  have d:=List.length_eq_countP_add_countP (l:=l) (p:=(· != N));have g:l.countP (λa=>¬(a != N)=true)<=1:=by
   have e:l.countP (λa=>¬(a != N)=true)=l.count N:=by
    unfold List.count;apply List.countP_congr;intro x _;simp
   rw[e];exact CI.1 hn N
  rw[Ah]at d;omega
theorem WI.apart (h:WI W){p q:Pc}(hp:p∈W.held)(hq:q∈W.held){x:Nat}(p1:p.addr<=x)(p2:x<p.addr+p.size)(q1:q.addr<=x)(q2:x<q.addr+q.size):p=q:=by
 obtain⟨A,y,H⟩:=h.hf p hp;obtain⟨B,m,E⟩:=h.hf q hq;have e1:=h.pJ hp y p1 p2;have e2:=h.pJ hq m q1 q2;have z:p.k=q.k:=h.one (x/256) p.k q.k A B y m O O;rw[←z,y]at m;cases m;have ga:=h.ga _ A y;have J:=ga.tb;have own:∀{r:Pc},Hd A r->r.addr<=x->x<r.addr+r.size->(r.cls = -1/\A.ow (x/256)=41/\∃u∈A.runs,r.addr=u.1*256/\u.1<=x/256/\x/256<u.1+u.2) ∨
  ∃(j:Nat) (c:cA) (b:List cH) (l:Nat) (s:cH) (i:Nat),r.cls=j/\A.ow (x/256)=j+1/\Cl A j c b/\b[l]?=some s/\i<c.n/\r.addr=at_ c s i/\r.size=c.size:=by
  intro r hr r1 r2;rcases hr with⟨c1,_,u,hu,c2,c3⟩|⟨j,c,c1,c2,c3,c4,_⟩
  ·exact .inl ⟨c1,(ga.jI hu O O).2,u,hu,c2,O,O⟩
  ·obtain⟨d,b,a,F⟩:=c4;have:d=c:=Option.some.inj (a.1.symm.trans c2);subst this;have C:=ga.cG j d b a;obtain⟨l,s,i,D,hi,e,_⟩:=(Uh C).1 F;have K:r.addr=at_ d s i:=Int.ofNat.inj e;have g:=GM C.pos (s:=s) (x:=x) hi O O;exact .inr ⟨j,d,b,l,s,i,c1,(ga.used a (zG D) g.1 g.2).2,a,D,hi,K,c3⟩
 refine h.unique hp hq ?_;rcases own H p1 p2 with⟨a1,a2,u,hu,a3,a4,a5⟩|⟨j,c,b,l,s,i,a1,a2,a3,a4,a5,a6,a7⟩
 ·rcases own E q1 q2 with⟨b1,b2,w,hw,b3,b4,b5⟩|⟨j',d,ss',l',s',i',b1,b2,b3,b4,b5,b6,b7⟩
  ·have:=ga.gW hu hw a4 a5 b4 b5;subst this;unfold Pc.key;rw[z,a1,b1,a3,b3]
  ·have:=b3.lt;omega
 ·rcases own E q1 q2 with⟨b1,b2,w,hw,b3,b4,b5⟩|⟨j',d,ss',l',s',i',b1,b2,b3,b4,b5,b6,b7⟩
  ·have:=a3.lt;omega
  ·have G:j=j':=by omega
   subst G;obtain⟨rfl,rfl⟩:=a3.eq b3;have:=UQ (ga.cG j c b a3) a4 b4 a5 b5 (x:=x) O O O O;unfold Pc.key;rw[z,a1,b1,a6,b6,this.2.1,this.2.2]
theorem WI.size_pos (h:WI W){p:Pc}(hp:p∈W.held):8<=p.size/\p.size%8=0:=by
 obtain⟨A,m,d⟩:=h.hf p hp;have ga:=h.ga _ A m;rcases d with⟨_,_,r,hr,h1,h2⟩|⟨j,c,_,hc,h2,h3,_⟩
 ·have s:=ga.gY r hr;omega
 ·obtain⟨g,i,a,_⟩:=h3;have:g=c:=Option.some.inj (a.1.symm.trans hc);subst this;have b:=(ga.cG j _ i a).ok;unfold cA.ok at b;omega
theorem WI.len (h:WI W):W.held.length<=262144:=by
 have u:(W.held.map (·.addr)).Nodup:=by
  have m:=mu.1 h.hk;refine mu.2 λi j hi g d e=>?_;have a:i<W.held.length:=by simpa using hi
  have b:j<W.held.length:=by simpa using g
  refine m i j (by simpa using a) (by simpa using b) d ?_;simp only[uT]at e ⊢;have s1:=(h.size_pos (kz a)).1;have s2:=(h.size_pos (kz b)).1;rw[h.apart (kz a) (kz b) (x:=W.held[i].addr) (zD _) O O O]
 have:=Jr 262144 _ u λx s=>by
  obtain⟨p,r,rfl⟩:=zE.1 s;exact(h.jQ r).1
 simpa using this
end Go.Ar
namespace Go.Ar
open Go.Vc (bU dA cO)
def mo (live:List (Int×Bk))(k x:Int):Nat:=live.countP λe=>e.2.2.2.1==k&&e.1==x
def lV (ls:List Li)(k x:Int):Nat:=if 0<=k then(ls.getD k.toNat iq).os.count x else 0
def mc (bs:List Bt)(k x:Int):Nat:=(bs.map λb=>if(b.1:Int)=k then b.2.count x else 0).sum
def jJ (p:Option Ph)(k x:Int):Nat:=match p with
 | some (.dH s _)=>if k = -1/\x=s*256 then 1 else 0
 | _=>0
def gS (g:Th)(k x:Int):Nat:=lV g.ls k x+mc g.bQ k x+jJ g.ph k x
def qV (H:Hw)(k x:Int):Nat:=mo H.live k x+(H.bR.map λg=>gS g k x).sum
def Um (held:List Pc)(k x:Int):Prop:=∃p∈held,p.eU=false/\p.cls=k/\(p.addr:Int)=x
open Classical in
noncomputable def lf (held:List Pc)(k x:Int):Nat:=if Um held k x then 1 else 0
theorem Jl (held:List Pc)(k x:Int):lf held k x<=1:=by unfold lf;split<;>omega
theorem Dv {held:List Pc}{k x:Int}(h:1<=lf held k x):Um held k x:=by
 unfold lf at h;split at h
 ·assumption
 ·omega
theorem V9 {held:List Pc}{k x:Int}(h:Um held k x):lf held k x=1:=by unfold lf;rw[zC h]
theorem KW {held:List Pc}{k x:Int}(h:¬Um held k x):lf held k x=0:=by unfold lf;rw[zB h]
theorem JL {l:List Int}(hn:l.Nodup)(x:Int):l.count x=if x∈l then 1 else 0:=by
 split
 ·rename_i h;have b:=CI.1 hn x;have a:=D1.2 h;omega
 ·rename_i h;exact AW.2 h
theorem D9 {held held':List Pc}{cl:Int}{l:List Int}(hn:l.Nodup)(h0:∀x∈l,¬Um held cl x)(h:∀k x,Um held' k x↔Um held k x\/(k=cl/\x∈l))(k x:Int):lf held' k x=lf held k x+(if cl=k then l.count x else 0):=by
 by_cases hk:cl=k
 ·subst hk;rw[zC rfl,JL hn];by_cases hx:x∈l
  ·rw[zC hx,KW (h0 x hx),V9 ((h _ _).2 (.inr ⟨rfl,hx⟩))]
  ·rw[zB hx,kA];by_cases hu:Um held cl x
   ·rw[V9 hu,V9 ((h _ _).2 (.inl hu))]
   ·rw[KW hu,KW λa=>by rcases(h _ _).1 a with a|⟨_,a⟩;exact hu a;exact hx a]
 ·rw[zB hk,kA];by_cases hu:Um held k x
  ·rw[V9 hu,V9 ((h _ _).2 (.inl hu))]
  ·rw[KW hu,KW λa=>by rcases(h _ _).1 a with a|⟨a,_⟩;exact hu a;exact hk a.symm]
theorem Ei {held held':List Pc}{cl:Int}{l:List Int}(hn:l.Nodup)(h0:∀x∈l,Um held cl x)(h:∀k x,Um held' k x↔Um held k x/\¬(k=cl/\x∈l))(k x:Int):lf held k x=lf held' k x+(if cl=k then l.count x else 0):=by
 by_cases hk:cl=k
 ·subst hk;rw[zC rfl,JL hn];by_cases hx:x∈l
  ·rw[zC hx,V9 (h0 x hx),KW λa=>((h _ _).1 a).2 ⟨rfl,hx⟩]
  ·rw[zB hx,kA];by_cases hu:Um held cl x
   ·rw[V9 hu,V9 ((h _ _).2 ⟨hu,λa=>hx a.2⟩)]
   ·rw[KW hu,KW λa=>hu ((h _ _).1 a).1]
 ·rw[zB hk,kA];by_cases hu:Um held k x
  ·rw[V9 hu,V9 ((h _ _).2 ⟨hu,λa=>hk a.1.symm⟩)]
  ·rw[KW hu,KW λa=>hu ((h _ _).1 a).1]
theorem FK {α:Type}(f:α->Nat):∀{l:List α} {t:Nat} {g:α} (g':α),l[t]?=some g->((l.set t g').map f).sum+f g=(l.map f).sum+f g'
 | [],t,g,g',h=>by simp at h
 | a::l,0,g,g',h=>by
  simp only[zx,Option.some.injEq]at h;subst h;simp only[List.set_cons_zero,zR,oC];omega
 | a::l,t+1,g,g',h=>by
  have:=FK f (l:=l) (t:=t) g' (by simpa using h);simp only[sE,zR,oC];omega
theorem CY {α:Type}(f:α->Nat){l:List α}{g:α}(h:g∈l):f g<=(l.map f).sum:=by
 induction l with
 | nil=>simp at h
 | cons a l ih=>
  simp only[zR,oC];rcases zW.1 h with rfl|h
  ·omega
  ·have:=ih h;omega
theorem wE (ls:List Li)(k:Nat)(x:Int):lV ls (k:Int) x=(ls.getD k iq).os.count x:=by
 unfold lV;rw[zC O,dG]
theorem E6 {ls:List Li}{j:Nat}(l:Li)(k:Nat)(h:j<ls.length):(ls.set j l).getD k iq=if k=j then l else ls.getD k iq:=by
 rw[zQ,nI];by_cases hkj:k=j
 ·subst hkj;simp[h]
 ·rw[zB hkj,zB (Ne.symm hkj),zQ]
theorem υ {ls:List Li}{j:Nat}(l:Li)(h:j<ls.length)(k x:Int):lV (ls.set j l) k x+(if(j:Int)=k then(ls.getD j iq).os.count x else 0)=lV ls k x+(if(j:Int)=k then l.os.count x else 0):=by
 by_cases hk:0<=k
 ·obtain⟨k,rfl⟩:=zc hk;rw[wE,wE,E6 l k h];by_cases hjk:j=k
  ·subst hjk;simp;omega
  ·have:¬(j:Int)=(k:Int):=by omega
   rw[zB (Ne.symm hjk),zB this,zB this]
 ·unfold lV;rw[zB hk,zB hk,zB O,zB O]
theorem V7 (k x:Int):mc [] k x=0:=rfl
theorem Vo (b:Bt)(bs:List Bt)(k x:Int):mc (b::bs) k x=(if(b.1:Int)=k then b.2.count x else 0)+mc bs k x:=by
 unfold mc;rw[zR,oC]
theorem J9 (a b:List Bt)(k x:Int):mc (a++b) k x=mc a k x+mc b k x:=by
 unfold mc;rw[zj,List.sum_append]
theorem JK {f:cA->Li->List Int×Li}(hf:∀c l x,(f c l).1.count x+(f c l).2.os.count x=l.os.count x){tb:List cA}{ls:List Li}(hl:ls.length=tb.length)(k x:Int):mc (KM f tb ls) k x+lV (KG f tb ls) k x=lV ls k x:=by
 have key:∀n,n<=tb.length->mc ((List.range n).filterMap λk=>match tb[k]?,ls[k]? with
  | some c,some l=>if(f c l).1=[]then none else some (k,(f c l).1)
  | _,_=>none) k x=if 0<=k/\k<(n:Int)then(match tb[k.toNat]?,ls[k.toNat]? with
  | some c,some l=>(f c l).1.count x
  | _,_=>0)else 0:=by
  intro n
  induction n with
  | zero=>intro _;rw[zB O];rfl
  | succ n i=>
   intro hn;have i:=i O;rw[oU,xq,J9,i];have d:tb[n]?=some tb[n]:=cW O;have a:ls[n]?=some ls[n]:=cW O;have e:mc ([n].filterMap λk=>match tb[k]?,ls[k]? with
    | some c,some l=>if(f c l).1=[]then none else some (k,(f c l).1)
    | _,_=>none) k x=if(n:Int)=k then(f tb[n] ls[n]).1.count x else 0:=by
    rw[C6,d,a];simp only;by_cases he:(f tb[n] ls[n]).1=[]
    ·rw[zC he,he];simp[V7]
    ·rw[zB he];simp only[List.filterMap_nil,Vo,V7,kA]
   rw[e];by_cases b:0<=k/\k<(n:Int)
   ·rw[zC b,zB (show ¬(n:Int)=k by omega),kA,zC (show 0<=k/\k<((n+1:Nat):Int)from⟨b.1,O⟩)]
   ·rw[zB b,zH];by_cases g:(n:Int)=k
    ·subst g;rw[zC rfl,zC (show(0:Int)<=(n:Int)/\(n:Int)<((n+1:Nat):Int)from⟨O,O⟩),dG,d,a]
    ·rw[zB g,zB O]
 have b:=key tb.length (zD _);have e:KM f tb ls=(List.range tb.length).filterMap λk=>match tb[k]?,ls[k]? with
  | some c,some l=>if(f c l).1=[]then none else some (k,(f c l).1)
  | _,_=>none:=rfl
 rw[e,b];by_cases hk:0<=k
 ·obtain⟨k,rfl⟩:=zc hk;rw[wE,wE,dG];by_cases hkl:k<tb.length
  ·have d:tb[k]?=some tb[k]:=cW hkl;have a:ls[k]?=some ls[k]:=cW O;rw[zC ⟨O,O⟩,d,a];simp only;have:(KG f tb ls).getD k iq=(f tb[k] ls[k]).2:=by
    unfold KG;rw[zQ,BR,d,a];rfl
   rw[this,zQ,a];exact hf _ _ _
  ·rw[zB O,zH];have b:(KG f tb ls).getD k iq=iq:=by
    unfold KG;rw[zQ,zX (by rw[List.length_zipWith];omega)];rfl
   have g:ls.getD k iq=iq:=by rw[zQ,zX O];rfl
   rw[b,g]
 ·rw[zB O,zH];unfold lV;rw[zB hk,zB hk]
theorem Bw (m:Nat)(l:Li)(x:Int):(gM m l).1.count x+(gM m l).2.os.count x=l.os.count x:=by
 show(l.os.take m).count x+(l.os.drop m).count x=_;rw[←wH,nY]
theorem Pt (c:cA)(l:Li)(x:Int):(Vw c l).1.count x+(Vw c l).2.os.count x=l.os.count x:=Bw _ l x
theorem Pb (c:cA)(l:Li)(x:Int):(Qd c l).1.count x+(Qd c l).2.os.count x=l.os.count x:=Bw _ l x
theorem NV (c:cA)(y:Int)(l:Li)(hl:l.os.length<=255)(x:Int):(dN c y l).1.count x+(dN c y l).2.os.count x=l.os.count x + [y].count x:=by
 have a:(eL [y] l).os=l.os++[y]:=by
  unfold eL;rw[zB aE]
 unfold dN;rw[zB O];split
 ·rw[a,List.count_nil,zH,wH]
 ·rw[Bw];have:(mK c (eL [y] l)).os=(eL [y] l).os:=by unfold mK;split<;>rfl
  rw[this,a,wH]
theorem FH {c:cA}{l l':Li}{y:Int}(h:KN c l=(some y,l'))(x:Int):l.os.count x=l'.os.count x + [y].count x:=by
 unfold KN at h;split at h
 ·simp at h
 ·rename_i z hz;cases h;have:l.os=l.os.dropLast++[y]:=by
   obtain⟨b,a⟩:=List.getLast?_eq_some_iff.1 hz;rw[a];simp
  conv=>lhs;rw[this]
  rw[wH]
theorem Nl {c:cA}{l l':Li}(h:KN c l=(none,l')):l.os=[]/\l'.os=[]:=by
 unfold KN at h;split at h
 ·rename_i hz;have:l.os=[]:=by simpa using hz
  cases h;refine⟨this,?_⟩;split<;>exact this
 ·simp at h
theorem Cg {live:List (Int×Bk)}{x:Int}(b:Bk)(h:bU live x=none)(k y:Int):mo (dA live x b) k y=mo live k y+(if b.2.2.1=k then[x].count y else 0):=by
 have a:live.any (λe=>e.1==x)=false:=by
  rw[mn];intro e he hx;unfold bU at h;rw[tj,oB]at h;exact h e he hx
 unfold dA;rw[a,zB aA];unfold mo;rw[List.countP_append]
 congr 1
 rw[wV,List.countP_nil,zH];by_cases h1:b.2.2.1=k
 ·by_cases h2:x=y
  ·subst h2;simp[h1]
  ·simp[h1,h2]
 ·simp[h1]
theorem Aq {live:List (Int×Bk)}{x:Int}{b:Bk}(h:bU live x=none){e:Int×Bk}:e∈dA live x b↔e∈live\/e=(x,b):=by
 have a:live.any (λe=>e.1==x)=false:=by
  rw[mn];intro e he hx;unfold bU at h;rw[tj,oB]at h;exact h e he hx
 unfold dA;rw[a,zB aA,zM,zN]
theorem AJ {live:List (Int×Bk)}{x:Int}{e:Int×Bk}:e∈cO live x↔e∈live/\e.1≠x:=by
 unfold cO;rw[zJ];simp
theorem DQ:∀{live:List (Int×Bk)} {x:Int} {b:Bk},(live.map (·.1)).Nodup->bU live x=some b->∀k y,mo live k y=mo (cO live x) k y+(if b.2.2.1=k then[x].count y else 0)
 | [],x,b,_,h,_,_=>by simp[bU]at h
 | e::l,x,b,hn,h,k,y=>by
  rw[zR,zr]at hn;by_cases he:e.1=x
  ·have hb:e.2=b:=by
    unfold bU at h;rw[List.find?_cons_of_pos (by simpa using he)]at h;simpa using h
   have hd:cO (e::l) x=l:=by
    unfold cO;rw[ve (by simpa using he),qH];intro a ha;have:a.1≠x:=λg=>hn.1 (zE.2 ⟨a,ha,g.trans he.symm⟩);simpa using this
   rw[hd];unfold mo;rw[wV,hb,he]
   congr 1
   by_cases h1:b.2.2.1=k
   ·by_cases h2:x=y
    ·subst h2;simp[h1]
    ·simp[h1,h2]
   ·simp[h1]
  ·have i:bU l x=some b:=by
    unfold bU at h ⊢
    rwa [List.find?_cons_of_neg (by simpa using he)]at h
   have d:=DQ hn.2 i k y;have hd:cO (e::l) x=e::cO l x:=by
    unfold cO;rw[uZ (by simpa using he)]
   rw[hd];unfold mo at d ⊢;rw[wV,wV,d];omega
theorem Jz {live:List (Int×Bk)}{e:Int×Bk}(h:e∈live):1<=mo live e.2.2.2.1 e.1:=by
 unfold mo;exact List.countP_pos_iff.2 ⟨e,h,by simp⟩
structure jE (s s':Sp):Prop where
 l:s'.st.length=s.st.length
 z:∀p,gf s'.st p=0↔gf s.st p=0
 w:s'.wd=s.wd
def iw (m:Nat)(g:Th):Prop:=match g.ph with
 | none=>g.bQ=[]
 | some (.take k)=>g.bQ=[]/\k<m
 | some (.cJ k w)=>g.bQ=[]/\k<m/\(g.li k).os=[]/\1<=w/\w<=32
 | some (.cL k w)=>g.bQ=[]/\k<m/\(g.li k).os=[]/\1<=w/\w<=32
 | some (.grow k w)=>g.bQ=[]/\k<m/\(g.li k).os=[]/\1<=w/\w<=32
 | some .fill=>∃k x xs,g.bQ=[(k,x::xs)]/\k<m/\(g.li k).os=[]/\xs.length<=128
 | some (.eP n)=>g.bQ=[]/\1<=n/\n<=64
 | some (.find x)=>g.bQ=[]/\iL x
 | some (.put k x)=>g.bQ=[(k,[x])]/\k<m
 | some .back=>g.bQ≠[]
 | some (.dH _ _)=>g.bQ=[]
 | some .drain=>g.bQ=[]
structure ui (m:Nat) (g:Th):Prop where
 ll:g.ls.length=m
 lo:∀l∈g.ls,fP l/\l.os.length<=128
 hb:∀b∈g.bQ,b.1<m/\b.2≠[]/\b.2.length<=256
 hl:g.bQ.length<=41
 ph:iw m g
def Lv (held:List Pc)(e:Int×Bk):Prop:=e.2.1=e.1/\∃p∈held,p.eU=false/\p.cls=e.2.2.2.1/\(p.addr:Int)=e.1/\e.2.2.1=(p.size:Int)/\e.2.2.2.2=(p.k:Int)
def Gv (held:List Pc)(s a:Int):Prop:=∃p∈held,p.eU=false/\p.cls = -1/\(p.addr:Int)=s*256/\a=(p.k:Int)
structure HI (H:Hw) (held:List Pc) (s0:Sp):Prop where
 wi:WI ⟨H.tb,s0,H.bZ,held⟩
 m6:jE s0 H.sp
 cn:∀k x,qV H k x=lf held k x
 lk:(H.live.map (·.1)).Nodup
 lv:∀e∈H.live,Lv held e
 gv:∀g∈H.bR,∀s a,g.ph=some (.dH s a)->Gv held s a
 th:∀g∈H.bR,ui H.tb.length g
 ok:∀c∈H.tb,c.ok
 a1:1<=H.bZ.length
 sl:H.sp.st.length=H.cf.aG
variable {H:Hw}{held:List Pc}{s0:Sp}{t k:Nat}{g:Th}{A:AR}
theorem jE.refl (s:Sp):jE s s:=⟨rfl,λ_=>Iff.rfl,rfl⟩
theorem HI.apart (h:HI H held s0){p q:Pc}(hp:p∈held)(hq:q∈held){x:Nat}(p1:p.addr<=x)(p2:x<p.addr+p.size)(q1:q.addr<=x)(q2:x<q.addr+q.size):p=q:=h.wi.apart hp hq p1 p2 q1 q2
theorem WI.same {W:Wd}(h:WI W){p q:Pc}(hp:p∈W.held)(hq:q∈W.held)(e:p.addr=q.addr):p=q:=by
 have b:=(h.size_pos hp).1;have a:=(h.size_pos hq).1;exact h.apart hp hq (x:=p.addr) (zD _) O O O
theorem WI.um {W:Wd}(h:WI W){p:Pc}(hp:p∈W.held){k x:Int}(hu:Um W.held k x)(e:(p.addr:Int)=x):p.eU=false/\p.cls=k:=by
 obtain⟨q,d,b,a,g⟩:=hu;obtain rfl:=h.same hp d O;exact⟨b,a⟩
theorem HI.m7 (h:HI H held s0){e:Int×Bk}(he:e∈H.live):Um held e.2.2.2.1 e.1:=by
 obtain⟨_,p,g,b,a,d,_⟩:=h.lv e he;exact⟨p,g,b,a,d⟩
theorem HI.pG (h:HI H held s0){g:Th}(hg:g∈H.bR)(k x:Int):gS g k x<=lf held k x:=by
 rw[←h.cn];unfold qV;have:=CY (λg=>gS g k x) hg;omega
theorem HI.rJ (h:HI H held s0){g:Th}(hg:g∈H.bR){k x:Int}(hc:1<=gS g k x):Um held k x:=Dv (ku hc (h.pG hg k x))
theorem HI.lO (h:HI H held s0){g:Th}(hg:g∈H.bR){k x:Int}(hc:1<=gS g k x):bU H.live x=none:=by
 cases hm:bU H.live x with
 | none=>rfl
 | some b=>
  have d:=Qi hm;have r:=h.rJ hg hc;obtain⟨q,s,y,w,m⟩:=h.m7 d;have u:k=b.2.2.1:=by
   have:=(h.wi.um (W:=⟨H.tb,s0,H.bZ,held⟩) s r m).2;exact this.symm.trans w
  have p:=Jz d;have i:=h.cn k x;have j:=Jl held k x;have a:=CY (λg=>gS g k x) hg;simp only at p a;unfold qV at i;rw[u]at i j a hc;omega
theorem HI.tC (h:HI H held s0){x:Int}(hn:∀k,¬Um held k x):bU H.live x=none:=by
 cases hm:bU H.live x with
 | none=>rfl
 | some b=>exact(hn _ (h.m7 (Qi hm))).elim
theorem HI.fA (h:HI H held s0)(hg:H.bR[t]?=some g){g':Th}{live':List (Int×Bk)}{s0' sp':Sp}{ars':List AR}{held':List Pc}(wi:WI ⟨H.tb,s0',ars',held'⟩)(m6:jE s0' sp')(hsl:sp'.st.length=H.sp.st.length)(hl:ars'.length=H.bZ.length)
 (sub:∀p∈held',p.eU=false->p∈held\/∀k,¬Um held k (p.addr:Int))
 (cn:∀k x,mo live' k x+gS g' k x+lf held k x=mo H.live k x+gS g k x+lf held' k x)
 (lk:(live'.map (·.1)).Nodup) (lv:∀e∈live',e∈H.live\/Lv held' e) (gv:∀s a,g'.ph=some (.dH s a)->Gv held' s a) (th:ui H.tb.length g') :
 HI {H with live:=live',sp:=sp',bZ:=ars',bR:=H.bR.set t g'} held' s0':=by
 have u:∀k x,qV {H with live:=live',sp:=sp',bZ:=ars',bR:=H.bR.set t g'} k x=lf held' k x:=λk x=>by
  have b:=h.cn k x;have r:=cn k x;have d:=FK (λg=>gS g k x) g' hg;unfold qV at b ⊢;simp only at d ⊢;omega
 have F:=(cX.1 hg).1;have bS:∀p∈held,p.eU=false->Um held' p.cls (p.addr:Int)->p∈held':=λp m E ⟨q,B,b,r,d⟩=>by
  rcases sub q B b with hs|hs
  ·have:q=p:=h.wi.same (W:=⟨H.tb,s0,H.bZ,held⟩) hs m O;rw[←this];exact B
  ·exact(hs p.cls ⟨p,m,E,rfl,d.symm⟩).elim
 refine⟨wi,m6,u,lk,λe A=>?_,λw i s a m=>?_,λw i=>?_,h.ok,by simp only;rw[hl];exact h.a1,hsl.trans h.sl⟩
 ·rcases lv e A with he'|he'
  ·obtain⟨D,p,m,b,r,d,y⟩:=h.lv e he';refine⟨D,p,bS p m b ?_,b,r,d,y⟩;rw[r,d];apply Dv;rw[←u];have:1<=mo live' e.2.2.2.1 e.1:=Jz A;unfold qV;simp only;omega
  ·exact he'
 ·rcases List.mem_iff_getElem?.1 i with⟨j,hj⟩;rcases VO hj with⟨rfl,rfl,_⟩|⟨hne,hj'⟩
  ·exact gv s a m
  ·obtain⟨p,z,b,r,d,y⟩:=h.gv w (zG hj') s a m;refine⟨p,bS p z b ?_,b,r,d,y⟩;rw[r,d];apply Dv;rw[←u];have C:=CY (λg=>gS g (-1) (s*256)) i;have G:1<=gS w (-1) (s*256):=by unfold gS;rw[m];simp[jJ]
   unfold qV;simp only at C ⊢;omega
 ·rcases List.mem_iff_getElem?.1 i with⟨j,hj⟩;rcases VO hj with⟨rfl,rfl,_⟩|⟨hne,hj'⟩
  ·exact th
  ·exact h.th w (zG hj')
theorem HI.kF (h:HI H held s0)(hg:H.bR[t]?=some g){g':Th}{live':List (Int×Bk)}(cn:∀k x,mo live' k x+gS g' k x=mo H.live k x+gS g k x)(lk:(live'.map (·.1)).Nodup)(lv:∀e∈live',e∈H.live\/Lv held e)
 (gv:∀s a,g'.ph=some (.dH s a)->Gv held s a) (th:ui H.tb.length g'):HI {H with live:=live',bR:=H.bR.set t g'} held s0:=
 h.fA hg h.wi h.m6 rfl rfl (λp b _=>.inl b) (λk x=>by have:=cn k x;omega) lk lv gv th
theorem Tt {A:AR}{x:Int}:po A x=true↔0<=x/\A.f x.toNat≠0:=by
 unfold po AR.f gf;simp
theorem WI.owner {W:Wd}(h:WI W){p:Pc}(hp:p∈W.held){x:Nat}(h1:p.addr<=x)(h2:x<p.addr+p.size):Yi W.bZ (x:Int)=(p.k:Int):=by
 obtain⟨A,b,_⟩:=h.hf p hp;have g:=h.pJ hp b h1 h2;have a:=(cX.1 b).1;have own:∀(j:Nat) (B:AR),W.bZ[j]?=some B->(po B ((x:Int)/256)=true↔j=p.k):=λj B d=>by
  have e:((x:Int)/256).toNat=x/256:=by omega
  rw[Tt,e];constructor
  ·rintro⟨_,hf⟩;exact h.one (x/256) j p.k B A d b hf O
  ·rintro rfl;rw[b]at d;cases d;exact⟨O,O⟩
 unfold Yi;rw[zB O];have hf:W.bZ.findIdx? (λA=>po A ((x:Int)/256))=some p.k:=by
  rw[nV];refine⟨a,(own p.k _ (cW a)).2 rfl,λj i=>?_⟩;have:=own j W.bZ[j] (cW O);intro hx;have:=this.1 hx;omega
 rw[hf]
theorem HI.owner (h:HI H held s0){p:Pc}(hp:p∈held){x:Nat}(h1:p.addr<=x)(h2:x<p.addr+p.size):Yi H.bZ (x:Int)=(p.k:Int):=h.wi.owner (W:=⟨H.tb,s0,H.bZ,held⟩) hp h1 h2
theorem HI.pT (h:HI H held s0){p:Pc}(hp:p∈held):Yi H.bZ (p.addr:Int)=(p.k:Int):=h.owner hp (zD _) (by have:=(h.wi.size_pos (W:=⟨H.tb,s0,H.bZ,held⟩) hp).1;omega)
theorem HI.i63 (h:HI H held s0){k x:Int}(hu:Um held k x):iL x/\0<=x/\0<=Yi H.bZ x:=by
 obtain⟨p,a,_,_,rfl⟩:=hu;have:=(h.wi.jQ (W:=⟨H.tb,s0,H.bZ,held⟩) a).1;refine⟨by unfold iL;omega,O,?_⟩;rw[h.pT a];omega
end Go.Ar
namespace Go.Ar
open Go.Vc (bU dA cO)
open Go.Bu (ZG)
structure KS (s s':Sp):Prop where
 l:s'.st.length=s.st.length
 k:∀p,gf s.st p≠0->gf s'.st p≠0/\∀w,w/32=p->s'.wd w=s.wd w
theorem KS.refl (s:Sp):KS s s:=⟨rfl,λp a=>⟨a,λ_ _=>rfl⟩⟩
theorem KS.trans {a b c:Sp}(h:KS a b)(k:KS b c):KS a c:=⟨k.l.trans h.l,λp d=>⟨(k.k p (h.k p d).1).1,λw g=>((k.k p (h.k p d).1).2 w g).trans ((h.k p d).2 w g)⟩⟩
variable {s s' sp sp' s0 s0':Sp}{A B:AR}{k:Nat}
theorem jE.mz (h:jE s s'):s'.st.map (λx=>decide (x=0))=s.st.map λx=>decide (x=0):=by
 refine zt λi=>?_;rw[zZ,zZ];have a:=h.z i;unfold gf at a;rw[zQ,zQ]at a;by_cases hi:i<s.st.length
 ·have b:i<s'.st.length:=by rw[h.l];exact hi
  rw[cW hi,cW b]at a ⊢;simp only[qz]at a;simp[a]
 ·have d:=h.l;rw[zX O,zX O]
theorem Ov {l l':List Nat}(h:l'.map (λx=>decide (x=0))=l.map λx=>decide (x=0))(a m:Nat)(f:Bool->Bool):((l'.drop a).take m).any (λx=>f (decide (x=0)))=((l.drop a).take m).any λx=>f (decide (x=0)):=by
 have e:∀l:List Nat,((l.drop a).take m).any (λx=>f (decide (x=0)))=(((l.map λx=>decide (x=0)).drop a).take m).any f:=λl=>by
  rw[←List.map_drop,←List.map_take,List.any_map];rfl
 rw[e,e,h]
theorem jE.fE (h:jE s s')(a m:Int):fE s' a m=fE s a m:=by
 unfold Go.Ar.fE;rw[h.l];have:=Ov h.mz a.toNat m.toNat (λb=>!b);have e:∀l:List Nat,l.any (λx=>x != 0)=l.any λx=>!decide (x=0):=λl=>by
  refine congrArg l.any (funext λx=>?_);cases x<;>rfl
 rw[e,e,this]
theorem jE.set (h:jE s s'){a m v:Nat}(hl:a+m<=s.st.length):jE (s.set a m v) (s'.set a m v):=by
 refine⟨by simp[Sp.set,Vn,h.l],λp=>?_,?_⟩
 ·show gf (gF s'.st a (a+m) v) p=0↔gf (gF s.st a (a+m) v) p=0;rw[vp (by rw[h.l];exact hl),vp hl];split
  ·exact Iff.rfl
  ·exact h.z p
 ·show(λw=>if a*32<=w/\w<(a+m)*32 then 0 else s'.wd w)=_
  rw[h.w];rfl
theorem S8 {n:Nat}{a m:Int}(h:ZG n a m=true):a.toNat+m.toNat<=n:=by
 by_cases h0:0<=a/\0<=m
 ·obtain⟨a,rfl⟩:=zc h0.1;obtain⟨m,rfl⟩:=zc h0.2;rw[dG,dG];exact(UP.1 h).2
 ·exfalso;unfold ZG at h;simp at h;omega
theorem jE.fZ (h:jE s s')(a m:Int):jE (fZ s a m) (fZ s' a m):=by
 unfold Go.Ar.fZ;rw[h.fE];split
 ·rename_i h0;refine h.set ?_;unfold Go.Ar.fE at h0;split at h0
  ·rename_i hr;exact S8 hr
  ·simp at h0
 ·exact h
theorem IS (s:Sp)(a m:Nat):KS s (fZ s (a:Int) (m:Int)):=by
 by_cases h:fE s (a:Int) (m:Int)=0
 ·have j:=DW h;obtain⟨u,r,i,_⟩:=EG h;refine⟨u,λp d=>?_⟩;have b:¬(a<=p/\p<a+m):=λg=>d (j.2.2 p g.1 g.2);exact⟨by rw[r,zB b];exact d,λw x=>i w O⟩
 ·unfold fZ;rw[zB h];exact KS.refl s
theorem jE.dB (h:jE s s')(size:Nat):dB s' size=dB s size:=by
 unfold Go.Ar.dB;rw[h.l]
 congr 1
 funext x
 rw[h.fE]
theorem jE.dC (h:jE s s')(A:AR)(m a no:Nat):(dC A s' m a no).1=(dC A s m a no).1/\(dC A s' m a no).2.1=(dC A s m a no).2.1/\jE (dC A s m a no).2.2 (dC A s' m a no).2.2/\KS s' (dC A s' m a no).2.2:=by
 unfold Go.Ar.dC;split
 ·exact⟨rfl,rfl,h,KS.refl _⟩
 ·unfold Hi;rw[h.dB];cases hg:Go.Ar.dB s (KC (max m a))with
  | none=>exact⟨rfl,rfl,h,KS.refl _⟩
  | some x=>
   simp only;split
   ·exact⟨rfl,rfl,h.fZ _ _,IS _ _ _⟩
   ·exact⟨rfl,rfl,h.fZ _ _,IS _ _ _⟩
theorem jE.cP (h:jE s s')(A:AR)(k:Int):(cP A s' k).1=(cP A s k).1/\Vx A s' k=Vx A s k/\jE (cP A s k).2 (cP A s' k).2/\KS s' (cP A s' k).2:=by
 unfold Go.Ar.cP Vx;split
 ·split
  ·rename_i c ss _ _;obtain⟨b,a,d,g⟩:=h.dC A c.aG 1 (k.toNat+1);cases e1:Go.Ar.dC A s c.aG 1 (k.toNat+1)with
   | mk o1 r1=>cases e2:Go.Ar.dC A s' c.aG 1 (k.toNat+1)with
    | mk o2 r2=>
     obtain⟨p,j⟩:=r1;obtain⟨m,i⟩:=r2;rw[e1,e2]at b a d;rw[e2]at g;simp only at b a d g;subst b;subst a;cases o2<;>exact⟨rfl,rfl,d,g⟩
  ·exact⟨rfl,rfl,h,KS.refl _⟩
 ·exact⟨rfl,rfl,h,KS.refl _⟩
theorem jE.cC (h:jE s s')(A:AR)(m a:Int):(cC A s' m a).1=(cC A s m a).1/\Q8 A s' m a=Q8 A s m a/\QF A s' m a=QF A s m a/\jE (cC A s m a).2 (cC A s' m a).2/\KS s' (cC A s' m a).2:=by
 unfold Go.Ar.cC Q8 QF;split
 ·obtain⟨d,b,g,i⟩:=h.dC A m.toNat a.toNat 41;cases e1:Go.Ar.dC A s m.toNat a.toNat 41 with
  | mk o1 r1=>cases e2:Go.Ar.dC A s' m.toNat a.toNat 41 with
   | mk o2 r2=>
    obtain⟨u,p⟩:=r1;obtain⟨r,j⟩:=r2;rw[e1,e2]at d b g;rw[e2]at i;simp only at d b g i;subst d;subst b;cases o2<;>exact⟨rfl,rfl,rfl,g,i⟩
 ·exact⟨rfl,rfl,rfl,h,KS.refl _⟩
variable {W:Wd}
theorem Rt (h:WI W){cl:Int}{l:List Int}(ho:jo W.held k cl l=true)(c x:Int):Um (W.held.filter λp=>!eB k cl l p) c x↔Um W.held c x/\¬(c=cl/\x∈l):=by
 constructor
 ·rintro⟨p,hp,h1,h2,h3⟩;obtain⟨a,d⟩:=zJ.1 hp;refine⟨⟨p,a,h1,h2,h3⟩,?_⟩;rintro⟨rfl,b⟩;obtain⟨q,m,g⟩:=(Vs.1 ho).1 x b;obtain⟨r,s,u,w⟩:=Vm.1 g;obtain rfl:=h.same (p:=p) (q:=q) a m O;have:eB k c l p=true:=QE.2 ⟨r,h2,by rw[h3];exact b⟩;rw[this]at d;cases d
 ·rintro⟨⟨p,hp,h1,h2,h3⟩,d⟩;refine⟨p,zJ.2 ⟨hp,?_⟩,h1,h2,h3⟩;have:eB k cl l p=false:=nM.2 λb=>by
   obtain⟨_,j,i⟩:=QE.1 b;exact d ⟨h2.symm.trans j,by rw[←h3];exact i⟩
  rw[this];rfl
theorem Sc {held:List Pc}{cl:Int}{l:List Int}(ho:jo held k cl l=true):∀x∈l,Um held cl x:=λx j=>by
 obtain⟨q,d,a⟩:=(Vs.1 ho).1 x j;obtain⟨m,b,g,i⟩:=Vm.1 a;exact⟨q,d,i,b,g⟩
theorem WkR (h:WI W){cl:Int}{l:List Int}(ho:jo W.held k cl l=true)(c x:Int):Um (Gw W.held k cl l true) c x↔Um W.held c x/\¬(c=cl/\x∈l):=by
 constructor
 ·rintro⟨p,hp,h1,h2,h3⟩;obtain⟨q,b,rfl⟩:=Ki.1 hp;by_cases hof:eB k cl l q=true
  ·rw[zC hof]at h1;cases h1
  ·rw[zB hof]at h1 h2 h3;refine⟨⟨q,b,h1,h2,h3⟩,?_⟩;rintro⟨rfl,hx⟩;obtain⟨r,g,a⟩:=(Vs.1 ho).1 x hx;obtain⟨i,m,s,u⟩:=Vm.1 a;obtain rfl:=h.same b g O;exact hof (QE.2 ⟨i,h2,by rw[h3];exact hx⟩)
 ·rintro⟨⟨p,hp,h1,h2,h3⟩,hn⟩;refine⟨p,Ki.2 ⟨p,hp,?_⟩,h1,h2,h3⟩;rw[zB];intro hx;obtain⟨_,j,d⟩:=QE.1 hx;exact hn ⟨h2.symm.trans j,by rw[←h3];exact d⟩
theorem Nt {held:List Pc}{cl:Int}{l:List Int}:∀p∈Gw held k cl l true,p.eU=false->p∈held:=λp b a=>by
 obtain⟨q,d,rfl⟩:=Ki.1 b;by_cases hof:eB k cl l q=true
 ·rw[zC hof]at a;cases a
 ·rw[zB hof];exact d
theorem OR (h:WI W)(hk:W.bZ[k]?=some A){j:Nat}:(∀x∈YR A (j:Int),∀c,¬Um W.held c x)/\(YR A (j:Int)).Nodup/\(∀c x,Um (Gw W.held k j (YR A (j:Int)) false) c x↔Um W.held c x\/(c=j/\x∈YR A (j:Int))) ∧
 (∀p∈Gw W.held k j (YR A (j:Int)) false,p.eU=false->p∈W.held\/∀c,¬Um W.held c (p.addr:Int)):=by
 obtain⟨o,e1,e2,D,H,F⟩:=Iz (h.ga k A hk) (j:Int);rw[dG]at e2;have s:∀x∈YR A (j:Int),∃q∈W.held,q.k=k/\q.cls=j/\(q.addr:Int)=x/\q.eU=true:=λx b=>by
  have m:=e2 x b;obtain⟨t,ht,d⟩:=m;have r:j<A.tb.length:=by rw[←(h.ga k A hk).lt];exact(cX.1 ht).1
  obtain⟨c,C,G,u,B⟩:=(h.ga k A hk).cl r;have i:fT A j x:=(VP u).2 ((h.ga k A hk).mq j c C t u ht x d);obtain⟨q,a,q1,q2,q3⟩:=h.ht k A hk j x i;obtain⟨_,_,_,_,y⟩:=h.cls a q2 (by rw[q1];exact hk);exact⟨q,a,q1,q2,q3,y.2 (by rw[q3];exact⟨t,ht,d⟩)⟩
 have new:∀x∈YR A (j:Int),∀c,¬Um W.held c x:=λx b c w=>by
  obtain⟨q,a,_,_,q3,q4⟩:=s x b;have:=(h.um a w q3).1;rw[q4]at this;cases this
 refine⟨new,D,λc x=>⟨?_,?_⟩,λp g J=>?_⟩
 ·rintro⟨p,g,h1,h2,h3⟩;obtain⟨q,a,rfl⟩:=Ki.1 g;by_cases hof:eB k (j:Int) (YR A (j:Int)) q=true
  ·rw[zC hof]at h2 h3;obtain⟨_,z,E⟩:=QE.1 hof;exact .inr ⟨h2.symm.trans z,by rw[←h3];exact E⟩
  ·rw[zB hof]at h1 h2 h3;exact .inl ⟨q,a,h1,h2,h3⟩
 ·rintro(⟨p,g,h1,h2,h3⟩|⟨rfl,b⟩)
  ·refine⟨p,Ki.2 ⟨p,g,?_⟩,h1,h2,h3⟩;split
   ·rw[←h1]
   ·rfl
  ·obtain⟨q,a,q1,q2,q3,q4⟩:=s x b;refine⟨{q with eU:=false},Ki.2 ⟨q,a,?_⟩,rfl,q2,q3⟩;rw[zC (QE.2 ⟨q1,q2,by rw[q3];exact b⟩)]
 ·obtain⟨q,a,rfl⟩:=Ki.1 g;by_cases hof:eB k (j:Int) (YR A (j:Int)) q=true
  ·rw[zC hof];exact .inr (new _ (QE.1 hof).2.2)
  ·rw[zB hof];exact .inl a
theorem Cx {tb:List cA}{bZ:List AR}{sp:Sp}{held new:List Pc}(h:WI ⟨tb,sp,bZ,held++new⟩):∀p∈new,∀c,¬Um held c (p.addr:Int):=by
 rintro p d c ⟨q,b,_,_,g⟩;have e:=h.same (p:=p) (q:=q) (nZ _ d) (kG _ b) O;have a:=h.hk;simp only[zj]at a;rw[nb]at a;exact a.2.2 q.key (zE.2 ⟨q,b,rfl⟩) p.key (zE.2 ⟨p,d,rfl⟩) (by rw[e])
theorem I5 {held new:List Pc}{cl:Int}{l:List Int}(h1:∀p∈new,p.eU=false/\p.cls=cl/\(p.addr:Int)∈l)(h2:∀x∈l,∃p∈new,(p.addr:Int)=x)(c x:Int):Um (held++new) c x↔Um held c x\/(c=cl/\x∈l):=by
 constructor
 ·rintro⟨p,b,a1,a2,a3⟩;rcases zM.1 b with b|b
  ·exact .inl ⟨p,b,a1,a2,a3⟩
  ·obtain⟨_,g,d⟩:=h1 p b;exact .inr ⟨a2.symm.trans g,by rw[←a3];exact d⟩
 ·rintro(⟨p,b,a⟩|⟨rfl,hx⟩)
  ·exact⟨p,kG _ b,a⟩
  ·obtain⟨p,b,e⟩:=h2 x hx;exact⟨p,nZ _ b,(h1 p b).1,(h1 p b).2.1,e⟩
theorem Ly {tb:List cA}{bZ:List AR}{sp:Sp}{held new:List Pc}(h:WI ⟨tb,sp,bZ,held++new⟩):∀p∈held++new,p.eU=false->p∈held\/∀c,¬Um held c (p.addr:Int):=λp a _=>by
 rcases zM.1 a with a|a
 ·exact .inl a
 ·exact .inr (Cx h p a)
theorem VE {ss:List cH}:∀{i:Nat},ZF ss i=none->∀k,k<i->∀s,ss[k]?=some s->¬s.many<s.tk.length
 | 0,_,k,hk,_,_=>by omega
 | i+1,h,k,hk,s,hs=>by
  unfold ZF at h;by_cases hki:k=i
  ·subst hki;rw[hs]at h;simp only at h;intro hlt;rw[zC hlt]at h;split at h
   ·split at h
    ·split at h<;>cases h
    ·cases h
   ·cases h
  ·cases hi:ss[i]? with
   | none=>
    rw[hi]at h;exact VE h k O s hs
   | some x=>
    rw[hi]at h;simp only at h;split at h
    ·split at h
     ·split at h
      ·split at h<;>cases h
      ·cases h
     ·exact VE (by assumption) k O s hs
    ·exact VE h k O s hs
theorem Oc (h:GA A)(hw:Ow A sp){j:Nat}(hE:Vx A sp (j:Int)=0){w:Nat}(h1:1<=w):YC (cP A sp (j:Int)).1 (j:Int) (w:Int)≠[]:=by
 rcases Lu h hw (j:Int)with⟨_,hn,_⟩|⟨j',c,ss,x,A1,sp1,hj,hk,hk1,_,e,hst,r1,r2,r3,_,hd,hS⟩
 ·exact(hn hE).elim
 ·obtain rfl:j=j':=by omega
  have a:Cl (cP A sp (j:Int)).1 j c (iu c ss x):=by
   rw[e];have m:Cl (dT A1 x c.aG (j+1)) j c ss:=hk1;exact Hx m _
  have C:=hS.ga.cG j c _ a;have b:(⟨x,List.replicate c.n false⟩:cH)∈iu c ss x:=VY.2 (.inl rfl);have u:(cP A sp (j:Int)).1.ck (j:Int)=true:=H8.2 ⟨j,rfl,a.lt⟩;unfold YC Kd VV;rw[u,zC rfl,zB (show ¬((w:Int)<0) by omega),zC rfl,dG,dG,a.1,a.2];simp only;obtain⟨w,rfl⟩:∃v,w=v+1:=⟨w-1,O⟩;cases ho:jc c (iu c ss x)with
  | some r=>
   obtain⟨y,B⟩:=r;rw[Gx ho];simp
  | none=>
   exfalso;unfold jc iN at ho;obtain⟨l,z⟩:=zP b;have p:=(cX.1 z).1;have d:(⟨x,List.replicate c.n false⟩:cH).many<(⟨x,List.replicate c.n false⟩:cH).tk.length:=by
    have:=C.ok.sd;simp[cH.many,yQ];omega
   cases hb:ZF (iu c ss x) (iu c ss x).length with
   | none=>exact VE hb l p _ z d
   | some i=>
    rw[hb]at ho;obtain⟨_,s,E,g⟩:=Kt hb;obtain⟨r,D,_⟩:=yx g;simp only[E,D]at ho;cases ho
end Go.Ar
namespace Go.Ar
open Go.Vc (bU dA cO)
variable {H:Hw}{held:List Pc}{s0:Sp}{t k:Nat}{g:Th}{A:AR}{c:cA}
theorem QD {p:Ph}{H1:Hw}{g1:Th}{nx:Option Ph}{a e:Int}(ht:t<H.bR.length)(hs:WJ H t p=({H1 with bR:=H.bR.set t g1},nx,a,e)):Ke H t p = {H1 with bR:=H.bR.set t {g1 with ph:=nx}}:=by
 unfold Ke;rw[hs];show Hw.eA _ t _=_;rw[ZY (g:=g1) (by simp[ht])];simp only[nB]
structure iE (H:Hw) (t:Nat) (p:Ph):Prop where
 ok:vf H t p
 hi:∃held s0,HI (Ke H t p) held s0
 ks:KS H.sp (Ke H t p).sp
theorem iE.mk' {p:Ph}(hg:H.bR[t]?=some g)(hl:g.bQ.length<=41)(h1:u7 H t p){H':Hw}{held':List Pc}{s0':Sp}(e:Ke H t p=H')(h2:HI H' held' s0')(h3:KS H.sp H'.sp):iE H t p:=
 ⟨⟨h1,λb a=>by rw[hg]at a;cases a;omega⟩,⟨held',s0',by rw[e];exact h2⟩,by rw[e];exact h3⟩
def Rq (tb:List cA)(g:Th):Ph->Int->Int->Prop
 | .take k,cl,sz=>cl=k/\∃c,tb[k]?=some c/\sz=c.size
 | .cJ k _,cl,sz=>cl=k/\∃c,tb[k]?=some c/\sz=c.size
 | .cL k _,cl,sz=>cl=k/\∃c,tb[k]?=some c/\sz=c.size
 | .grow k _,cl,sz=>cl=k/\∃c,tb[k]?=some c/\sz=c.size
 | .fill,cl,sz=>∃k xs r c,g.bQ=(k,xs)::r/\cl=k/\tb[k]?=some c/\sz=c.size
 | .eP m,cl,sz=>cl = -1/\sz=((m*256:Nat):Int)
 | _,_,_=>False
def oV (H:Hw)(t:Nat):Ph->Nat
 | .take _=>5
 | .cJ _ _=>4
 | .cL k w=>if YC (H.eM t) (k:Int) (w:Int)=[]then 3 else 1
 | .grow _ _=>2
 | _=>0
def uK (H:Hw)(t:Nat)(p:Ph)(cl sz:Int):Prop:=
 (∃p' g',(WJ H t p).2.1=some p'/\(Ke H t p).live=H.live/\(Ke H t p).bR[t]?=some g'/\Rq H.tb g' p' cl sz/\oV (Ke H t p) t p'<oV H t p) ∨
 ((WJ H t p).2.1=none/\(WJ H t p).2.2.2≠0/\(WJ H t p).2.2.1=0/\(Ke H t p).live=H.live) ∨
 ((WJ H t p).2.1=none/\(WJ H t p).2.2.2=0/\bU H.live (WJ H t p).2.2.1=none/\(Ke H t p).live=dA H.live (WJ H t p).2.2.1 ((WJ H t p).2.2.1,sz,cl,Yi (Ke H t p).bZ (WJ H t p).2.2.1))
theorem HI.mem (h:HI H held s0)(hg:H.bR[t]?=some g):g∈H.bR:=zG hg
theorem HI.j8 (h:HI H held s0)(t:Nat):H.own t<H.bZ.length:=vM _ (by have:=h.a1;omega)
theorem HI.eM (h:HI H held s0)(t:Nat):H.bZ[H.own t]?=some (H.eM t):=by
 have a:=cW (h.j8 t);rw[CM a];exact a
theorem HI.rz (h:HI H held s0):H.tb.length<=40:=by
 have a:=h.eM 0;have:=(h.wi.ga _ _ a).tb;rw[h.wi.tb _ _ a]at this;exact this
theorem HI.cls (h:HI H held s0)(hk:k<H.tb.length):∃c,H.tb[k]?=some c/\c.ok:=⟨H.tb[k],cW hk,h.ok _ (kz hk)⟩
theorem ui.li {m:Nat}(h:ui m g)(hk:k<m):∃l,g.ls[k]?=some l/\g.li k=l/\fP l/\l.os.length<=128:=by
 have a:=cW (l:=g.ls) (i:=k) (by rw[h.ll];exact hk);have:=h.lo _ (kz (by rw[h.ll];exact hk));exact⟨_,a,A6 a,this.1,this.2⟩
theorem ui.ir {m:Nat}(h:ui m g){l':Li}(h1:fP l')(h2:l'.os.length<=128):(g.ls.set k l').length=m/\∀l∈g.ls.set k l',fP l/\l.os.length<=128:=by
 refine⟨by rw[oS];exact h.ll,λl a=>?_⟩;rcases Av a with a|rfl
 ·exact h.lo l a
 ·exact⟨h1,h2⟩
theorem Wob {ls:List Li}{l':Li}{hs:List Bt}{ph:Option Ph}(hk:k<ls.length):(⟨ls.set k l',hs,ph⟩:Th).li k=l':=by
 unfold Th.li;rw[E6 l' k hk,zC rfl]
theorem HI.xO (h:HI H held s0){y:Int}(hu:Um held (k:Int) y)(hc:H.tb[k]?=some c):Lv held (y,(y,(c.size:Int),(k:Int),Yi H.bZ y)):=by
 obtain⟨p,d,m,g,rfl⟩:=hu;obtain⟨A,i,_⟩:=h.wi.hf p d;obtain⟨c',b,j,_⟩:=h.wi.cls d g i;rw[h.wi.tb _ _ i]at b;have a:H.tb[k]?=some c':=b;rw[hc]at a;cases a;exact⟨rfl,p,d,m,g,rfl,by rw[j],by rw[h.pT d]⟩
theorem A9 {ls:List Li}{l:Li}(hl:ls[k]?=some l)(l':Li)(k' x:Int):lV (ls.set k l') k' x+(if(k:Int)=k' then l.os.count x else 0)=lV ls k' x+(if(k:Int)=k' then l'.os.count x else 0):=by
 have:=υ l' (cX.1 hl).1 k' x;rw[zQ,hl]at this;exact this
theorem Pu {ls:List Li}{l:Li}(hl:ls[k]?=some l)(x:Int):lV ls (k:Int) x=l.os.count x:=by
 rw[wE,zQ,hl];rfl
theorem Τ (h:HI H held s0)(hg:H.bR[t]?=some g)(hph:g.ph=some (.take k)){cl sz:Int}(hr:Rq H.tb g (.take k) cl sz):iE H t (.take k)/\uK H t (.take k) cl sz:=by
 have F:=(cX.1 hg).1;have b:=h.th g (h.mem hg);obtain⟨P,B⟩:g.bQ=[]/\k<H.tb.length:=by have:=b.ph;unfold iw at this;rw[hph]at this;exact this
 obtain⟨rfl,c,m,rfl⟩:=hr;have w:=h.ok c (zG m);obtain⟨l,hl,i,J,S⟩:=b.li B;have d:=FY w J;have j:=GY hg;cases hT:KN c l with
 | mk o l'=>
  rw[hT]at d;cases o with
  | some y=>
   have C:WJ H t (.take k)=({{H with live:=dA H.live y (y,(c.size:Int),(k:Int),Yi H.bZ y)}with bR:=H.bR.set t {g with ls:=g.ls.set k l'}},none,y,0):=by
    simp only[WJ,j,UF m,i,hT,V6,ZY hg,Th.ir]
   have e:=QD F C;have A:1<=gS g (k:Int) y:=by
    have:=FH hT y;rw[Ck]at this;unfold gS;rw[Pu hl];omega
   have N:=h.rJ (h.mem hg) A;have M:=h.lO (h.mem hg) A;have p:l'.os.length<=128:=by
    have:l'.os.length<=l.os.length:=by
     unfold KN at hT;split at hT
     ·cases hT
     ·cases hT;simp
    omega
   obtain⟨ll,L⟩:=b.ir (k:=k) d p;have hi:=h.kF hg (g':={g with ls:=g.ls.set k l',ph:=none}) (live':=dA H.live y (y,(c.size:Int),(k:Int),Yi H.bZ y)) (λE x=>by
    rw[Cg _ M];have D:=A9 hl l' E x;have V:=FH hT x;unfold gS;rw[hph];simp only[jJ];by_cases hkk:(k:Int)=E
    ·simp only[hkk,zT]at D ⊢;omega
    ·simp only[hkk,jR]at D ⊢;omega)
    (Go.Vc.gZ h.lk) (λQ r=>by
     rcases(Aq M).1 r with r|rfl
     ·exact .inl r
     ·exact .inr (h.xO N m))
    (λs a G=>by cases G) ⟨ll,L,b.hb,b.hl,by unfold iw;exact P⟩
   refine⟨iE.mk' hg b.hl ⟨B,λU K z=>?_⟩ e hi (KS.refl _),.inr (.inr ?_)⟩
   ·rw[j,i,UF m,hT]at z;cases z;exact(h.i63 N).1
   ·rw[e,C];exact⟨rfl,rfl,M,rfl⟩
  | none=>
   have C:WJ H t (.take k)=({H with bR:=H.bR.set t {g with ls:=g.ls.set k l'}},some (.cJ k (pf c l')),0,0):=by
    simp only[WJ,j,UF m,i,hT,ZY hg,Th.ir]
   have e:=QD F C;obtain⟨o1,o2⟩:=Nl hT;obtain⟨ll,L⟩:=b.ir (k:=k) d (by rw[o2];simp);have u:=d.nF;have R:1<=pf c l'/\pf c l'<=32:=by
    unfold cA.ok at w;unfold pf;simp only at u;omega
   have hi:=h.kF hg (g':={g with ls:=g.ls.set k l',ph:=some (.cJ k (pf c l'))}) (live':=H.live) (λE x=>by
    have D:=A9 hl l' E x;rw[o1,o2]at D;unfold gS;rw[hph];simp only[jJ];omega) h.lk (λQ r=>.inl r) (λs a G=>by cases G) ⟨ll,L,b.hb,b.hl,by
     unfold iw;exact⟨P,B,by rw[Wob (by rw[b.ll];exact B)];exact o2,R⟩⟩
   refine⟨iE.mk' hg b.hl ⟨B,λU K z=>?_⟩ e hi (KS.refl _),.inl ?_⟩
   ·rw[j,i,UF m,hT]at z;cases z
   ·rw[e,C];exact⟨_,_,rfl,rfl,zO F,⟨rfl,c,m,rfl⟩,by simp[oV]⟩
theorem G3 (h:GA A)(h0:QG A (k:Int)=0)(hc:A.tb[k]?=some c):∃x xs,YR A (k:Int)=x::xs/\xs.length+1=c.batch:=by
 have a:YR A (k:Int)=(match A.cQ[k]? with
  | some t=>t.bs.getLast?.getD []
  | none=>[]):=by unfold YR;rw[zC h0,dG];rfl
 unfold QG at h0;rw[dG]at h0;split at h0
 ·split at h0
  ·rename_i t ht;split at h0
   ·cases h0
   ·rename_i hb;rw[ht]at a;simp only at a;have m:t.bs.getLast?=some (t.bs.getLast hb):=List.getLast?_eq_some_getLast hb;rw[m]at a;simp only[qz]at a;have:=h.pN k c t hc ht _ (List.getLast_mem hb);rw[←a]at this;have j:=h.cG;cases hx:YR A (k:Int)with
    | nil=>
     rw[hx]at this;have d:k<A.tb.length:=(cX.1 hc).1;obtain⟨i,p,_,b,_⟩:=h.cl d;have g:i=c:=Option.some.inj (b.1.symm.trans hc);have:=(h.cG k i p b).ok;unfold cA.ok at this;simp at *;subst g;omega
    | cons x xs=>exact⟨x,xs,rfl,by rw[hx]at this;simpa using this⟩
  ·cases h0
 ·cases h0
theorem MS (h:HI H held s0)(hg:H.bR[t]?=some g){w:Nat}(hph:g.ph=some (.cJ k w)){cl sz:Int}(hr:Rq H.tb g (.cJ k w) cl sz):iE H t (.cJ k w)/\uK H t (.cJ k w) cl sz:=by
 have A:=(cX.1 hg).1;have d:=h.th g (h.mem hg);obtain⟨E,C,m,U⟩:g.bQ=[]/\k<H.tb.length/\(g.li k).os=[]/\1<=w/\w<=32:=by have:=d.ph;unfold iw at this;rw[hph]at this;exact this
 obtain⟨rfl,c,i,rfl⟩:=hr;have J:=h.ok c (zG i);have p:=J;unfold cA.ok at p;have B:=h.eM t;have ga:=h.wi.ga _ _ B;have u:(H.eM t).tb[k]?=some c:=by rw[h.wi.tb _ _ B];exact i
 have L:u7 H t (.cJ k w):=⟨C,λD=>by
  obtain⟨x,r,e,_⟩:=G3 ga D u;rw[e];simp⟩
 by_cases hcase:w=c.batch/\QG (H.eM t) (k:Int)=0
 ·obtain⟨rfl,D⟩:=hcase;obtain⟨x,r,K,M⟩:=G3 ga D u;have z:WJ H t (.cJ k c.batch)=({H.cE (H.own t) (Z3 (H.eM t) (k:Int))with bR:=H.bR.set t {g with bQ:=[(k,x::r)]}},some .fill,0,0):=by
   simp only[WJ,UF i,zT,D,Ko,K];rw[ZY (g:=g) (by exact hg),E];rfl
  have e:=QD (H1:=H.cE (H.own t) (Z3 (H.eM t) (k:Int))) A z;obtain⟨R,Q,V,N⟩:=OR h.wi B (j:=k);have wi:=h.wi.xj B (k:Int);have hi:=h.fA hg (g':={g with bQ:=[(k,x::r)],ph:=some .fill}) (live':=H.live) wi h.m6 rfl (by simp[Wd.put]) N (λW y=>by
   rw[D9 Q (λy S=>R y S _) V,K];unfold gS;rw[hph,E];simp only[jJ,Vo,V7];omega) h.lk (λP G=>.inl G) (λs a F=>by cases F) ⟨d.ll,d.lo,λb hb=>by
    simp only[zN]at hb;subst hb;exact⟨C,by simp,by simp;omega⟩,by simp,by
    unfold iw;exact⟨k,x,r,rfl,C,m,O⟩⟩
  refine⟨iE.mk' hg d.hl L e hi (KS.refl _),.inl ?_⟩;rw[e,z];exact⟨_,_,rfl,rfl,zO A,⟨k,x::r,[],c,rfl,rfl,i,rfl⟩,by simp[oV]⟩
 ·have z:WJ H t (.cJ k w)=({H with bR:=H.bR.set t g},some (.cL k w),0,0):=by
   have:H.bR.set t g=H.bR:=QR hg;rw[this];simp only[WJ,UF i];split
   ·split
    ·exact(hcase ⟨by assumption,by assumption⟩).elim
    ·rfl
   ·rfl
  have e:=QD A z;have hi:=h.kF hg (g':={g with ph:=some (.cL k w)}) (live':=H.live) (λW x=>by
   unfold gS;rw[hph];simp only[jJ]) h.lk (λP G=>.inl G) (λs a F=>by cases F) ⟨d.ll,d.lo,d.hb,d.hl,by
    unfold iw;exact⟨E,C,m,U⟩⟩
  refine⟨iE.mk' hg d.hl L e hi (KS.refl _),.inl ?_⟩;rw[e,z];refine⟨_,_,rfl,rfl,zO A,⟨rfl,c,i,rfl⟩,?_⟩;simp only[oV];split<;>omega
theorem WdS (h:GA A)(j w:Nat):(YC A (j:Int) (w:Int)).length<=w:=by
 unfold YC;split
 ·rename_i h0;have b:A.ck (j:Int)=true:=by
   unfold Kd at h0;split at h0
   ·assumption
   ·cases h0
  obtain⟨i,hi,d⟩:=H8.1 b;obtain⟨c,g,t,a,m⟩:=h.cl d;have:i=j:=by omega
  subst this;unfold VV;rw[dG,dG,a.1,a.2];exact(GH w (h.cG i c g a)).2.2.1
 ·simp
theorem OP (H:Hw)(t:Nat)(B:AR)(h:H.own t<H.bZ.length)(sp:Sp)(bR:List Th):Hw.eM {H.cE (H.own t) B with sp:=sp,bR:=bR} t=B:=by
 refine CM ?_;have:Hw.own {H.cE (H.own t) B with sp:=sp,bR:=bR} t=H.own t:=by unfold Hw.own Hw.cE;simp
 rw[this];simp[Hw.cE,h]
theorem MY (h:HI H held s0)(hg:H.bR[t]?=some g){w:Nat}(hph:g.ph=some (.cL k w)){cl sz:Int}(hr:Rq H.tb g (.cL k w) cl sz):iE H t (.cL k w)/\uK H t (.cL k w) cl sz:=by
 have C:=(cX.1 hg).1;have d:=h.th g (h.mem hg);obtain⟨D,G,m,M⟩:g.bQ=[]/\k<H.tb.length/\(g.li k).os=[]/\1<=w/\w<=32:=by have:=d.ph;unfold iw at this;rw[hph]at this;exact this
 obtain⟨rfl,c,K,rfl⟩:=hr;have J:=h.eM t;have ga:=h.wi.ga _ _ J;have wi:=h.wi.from J (k:Int) (w:Int);have j:=WdS ga k w;have u:=(Fk ga (k:Int) (w:Int)).2.2.1;cases hv:YC (H.eM t) (k:Int) (w:Int)with
 | nil=>
  have B:WJ H t (.cL k w)=({H.cE (H.own t) (YU (H.eM t) (k:Int) (w:Int))with bR:=H.bR.set t g},some (.grow k w),0,0):=by
   have:H.bR.set t g=H.bR:=QR hg;rw[this];simp only[WJ,hv,zT,Hw.cE]
  have e:=QD (H1:=H.cE (H.own t) (YU (H.eM t) (k:Int) (w:Int))) C B;rw[hv]at wi;simp only[oW,kC]at wi;have hi:=h.fA hg (g':={g with ph:=some (.grow k w)}) (live':=H.live) wi h.m6 rfl (by simp[Wd.put]) (λp i _=>.inl i) (λQ y=>by
   unfold gS;rw[hph];simp only[jJ]) h.lk (λL E=>.inl E) (λs a i=>by cases i) ⟨d.ll,d.lo,d.hb,d.hl,by
    unfold iw;exact⟨D,G,m,M⟩⟩
  refine⟨iE.mk' hg d.hl trivial e hi (KS.refl _),.inl ?_⟩;rw[e,B];exact⟨_,_,rfl,rfl,zO C,⟨rfl,c,K,rfl⟩,by simp[oV,hv]⟩
 | cons v vs=>
  have B:WJ H t (.cL k w)=({H.cE (H.own t) (YU (H.eM t) (k:Int) (w:Int))with bR:=H.bR.set t {g with bQ:=[(k,(v::vs).map λ(x:Nat)=>(x:Int))]}},some .fill,0,0):=by
   simp only[WJ,hv,Ko];rw[zB aA,ZY (g:=g) (by exact hg),D];rfl
  have e:=QD (H1:=H.cE (H.own t) (YU (H.eM t) (k:Int) (w:Int))) C B;rw[hv]at wi j u;have r:((v::vs).map λ(x:Nat)=>(x:Int)).Nodup:=List.Pairwise.map (R:=(· ≠ ·)) _ (λa b F e=>F O) u;have app:=I5 (held:=held) (new:=(v::vs).map λy=>(⟨H.own t,(k:Int),y,pz H.tb (k:Int),false⟩:Pc)) (cl:=(k:Int)) (l:=(v::vs).map λ(x:Nat)=>(x:Int)) (λp i=>by
   obtain⟨y,A,rfl⟩:=zE.1 i;exact⟨rfl,rfl,zE.2 ⟨y,A,rfl⟩⟩) λx P=>by
   obtain⟨y,A,rfl⟩:=zE.1 P;exact⟨_,zE.2 ⟨y,A,rfl⟩,rfl⟩
  have new:=Cx wi;have hi:=h.fA hg (g':={g with bQ:=[(k,(v::vs).map λ(x:Nat)=>(x:Int))],ph:=some .fill}) (live':=H.live) wi h.m6 rfl (by simp[Wd.put]) (Ly wi) (λQ y=>by
   rw[D9 r (λy A=>by
    obtain⟨z,N,rfl⟩:=zE.1 A;exact new ⟨H.own t,(k:Int),z,pz H.tb (k:Int),false⟩ (zE.2 ⟨z,N,rfl⟩) _) app]
   unfold gS;rw[hph,D];simp only[jJ,Vo,V7];omega) h.lk (λL E=>.inl E) (λs a i=>by cases i) ⟨d.ll,d.lo,λb hb=>by
    simp only[zN]at hb;subst hb;exact⟨G,by simp,by simp at j ⊢;omega⟩,by simp,by
    unfold iw;exact⟨k,(v:Int),vs.map λ(x:Nat)=>(x:Int),rfl,G,m,by simp at j ⊢;omega⟩⟩
  refine⟨iE.mk' hg d.hl trivial e hi (KS.refl _),.inl ?_⟩;rw[e,B];refine⟨_,_,rfl,rfl,zO C,⟨k,_,[],c,rfl,rfl,K,rfl⟩,?_⟩;simp[oV,hv]
theorem Ma (h:HI H held s0)(hg:H.bR[t]?=some g){w:Nat}(hph:g.ph=some (.grow k w)){cl sz:Int}(hr:Rq H.tb g (.grow k w) cl sz):iE H t (.grow k w)/\uK H t (.grow k w) cl sz:=by
 have x:=(cX.1 hg).1;have b:=h.th g (h.mem hg);obtain⟨C,E,u,B⟩:g.bQ=[]/\k<H.tb.length/\(g.li k).os=[]/\1<=w/\w<=32:=by have:=b.ph;unfold iw at this;rw[hph]at this;exact this
 obtain⟨rfl,c,F,rfl⟩:=hr;have A:=h.eM t;have ga:=h.wi.ga _ _ A;obtain⟨e1,e2,D,r⟩:=h.m6.cP (H.eM t) (k:Int);have wi:=h.wi.grow A (k:Int);by_cases h0:Vx (H.eM t) H.sp (k:Int)=0
 ·have m:WJ H t (.grow k w)=({{H.cE (H.own t) (cP (H.eM t) H.sp (k:Int)).1 with sp:=(cP (H.eM t) H.sp (k:Int)).2}with bR:=H.bR.set t g},some (.cL k w),0,0):=by
   have:H.bR.set t g=H.bR:=QR hg;rw[this];simp only[WJ,h0,zT,Hw.cE]
  have e:=QD (H1:={H.cE (H.own t) (cP (H.eM t) H.sp (k:Int)).1 with sp:=(cP (H.eM t) H.sp (k:Int)).2}) x m;have d:=Oc ga (h.wi.ow _ _ A) (j:=k) (by rw[←e2];exact h0) B.1;rw[show(Wd.mk H.tb s0 H.bZ held).sp=s0 from rfl,←e1]at d;rw[show(Wd.mk H.tb s0 H.bZ held).sp=s0 from rfl,←e1]at wi;have hi:=h.fA hg (g':={g with ph:=some (.cL k w)}) (live':=H.live) wi D r.l (by simp[Wd.put]) (λp i _=>.inl i) (λG y=>by
   unfold gS;rw[hph];simp only[jJ]) h.lk (λJ z=>.inl z) (λs a i=>by cases i) ⟨b.ll,b.lo,b.hb,b.hl,by
    unfold iw;exact⟨C,E,u,B⟩⟩
  refine⟨iE.mk' hg b.hl trivial e hi r,.inl ?_⟩;rw[e,m];refine⟨_,_,rfl,rfl,zO x,⟨rfl,c,F,rfl⟩,?_⟩;have:=OP H t (cP (H.eM t) H.sp (k:Int)).1 (h.j8 t) (cP (H.eM t) H.sp (k:Int)).2 (H.bR.set t {g with ph:=some (.cL k w)});simp only[oV];rw[this,zB d];omega
 ·have m:WJ H t (.grow k w)=({{H.cE (H.own t) (cP (H.eM t) H.sp (k:Int)).1 with sp:=(cP (H.eM t) H.sp (k:Int)).2}with bR:=H.bR.set t g},none,0,Vx (H.eM t) H.sp (k:Int)):=by
   have:H.bR.set t g=H.bR:=QR hg;rw[this];simp only[WJ,h0,jR,Hw.cE]
  have e:=QD (H1:={H.cE (H.own t) (cP (H.eM t) H.sp (k:Int)).1 with sp:=(cP (H.eM t) H.sp (k:Int)).2}) x m;rw[show(Wd.mk H.tb s0 H.bZ held).sp=s0 from rfl,←e1]at wi;have hi:=h.fA hg (g':={g with ph:=none}) (live':=H.live) wi D r.l (by simp[Wd.put]) (λp i _=>.inl i) (λG y=>by
   unfold gS;rw[hph];simp only[jJ]) h.lk (λJ z=>.inl z) (λs a i=>by cases i) ⟨b.ll,b.lo,b.hb,b.hl,by
    unfold iw;exact C⟩
  refine⟨iE.mk' hg b.hl trivial e hi r,.inr (.inl ?_)⟩;rw[e,m];exact⟨rfl,h0,rfl,rfl⟩
theorem Pn (h:HI H held s0)(hg:H.bR[t]?=some g)(hph:g.ph=some .fill){cl sz:Int}(hr:Rq H.tb g .fill cl sz):iE H t .fill/\uK H t .fill cl sz:=by
 have L:=(cX.1 hg).1;have i:=h.th g (h.mem hg);obtain⟨k,x,xs,w,G,d,P⟩:∃k x xs,g.bQ=[(k,x::xs)]/\k<H.tb.length/\(g.li k).os=[]/\xs.length<=128:=by have:=i.ph;unfold iw at this;rw[hph]at this;exact this
 obtain⟨k',W,r,c,A,rfl,J,rfl⟩:=hr;rw[w]at A;obtain⟨j, -⟩:=List.cons.inj A;obtain rfl:k=k':=congrArg Prod.fst j;obtain⟨l,hl,p,D,S⟩:=i.li G;have u:=GY hg;rw[p]at d;have m:(eL xs.reverse l).os=xs.reverse:=by unfold eL;rw[d,zB aE];simp
 have K:WJ H t .fill=({{H with live:=dA H.live x (x,(c.size:Int),(k:Int),Yi H.bZ x)}with bR:=H.bR.set t {ls:=g.ls.set k (eL xs.reverse l),bQ:=[],ph:=g.ph}},none,x,0):=by
  simp only[WJ,u,w,UF J,V6,ZY hg,p]
 have e:=QD L K;have z:1<=gS g (k:Int) x:=by
  unfold gS;rw[w,Vo,zC rfl];have:1<=(x::xs).count x:=D1.2 aA;simp only;omega
 have F:=h.rJ (h.mem hg) z;have E:=h.lO (h.mem hg) z;obtain⟨Q,R⟩:=i.ir (k:=k) (yL (xs:=xs.reverse) D) (by rw[m];simp;omega);have hi:=h.kF hg (g':={ls:=g.ls.set k (eL xs.reverse l),bQ:=[],ph:=none}) (live':=dA H.live x (x,(c.size:Int),(k:Int),Yi H.bZ x)) (λk' y=>by
  rw[Cg _ E];have B:=A9 hl (eL xs.reverse l) k' y;rw[d,m,List.count_reverse,List.count_nil]at B;have U:(x::xs).count y=[x].count y+xs.count y:=wH (l₁:=[x]) (l₂:=xs);unfold gS;rw[hph,w];simp only[jJ,Vo,V7];by_cases j:(k:Int)=k'
  ·simp only[j,zT]at B ⊢;omega
  ·simp only[j,jR]at B ⊢;omega)
  (Go.Vc.gZ h.lk) (λV C=>by
   rcases(Aq E).1 C with C|rfl
   ·exact .inl C
   ·exact .inr (h.xO F J))
  (λs a N=>by cases N) ⟨Q,R,λb M=>by simp at M,by simp,by unfold iw;rfl⟩
 refine⟨iE.mk' hg i.hl ⟨k,x,xs,[],by rw[u];exact w,G,(h.i63 F).1,by rw[u,p,d];simp;omega⟩ e hi (KS.refl _),.inr (.inr ?_)⟩;rw[e,K];exact⟨rfl,rfl,E,rfl⟩
theorem To (h:HI H held s0)(hg:H.bR[t]?=some g){m:Nat}(hph:g.ph=some (.eP m)){cl sz:Int}(hr:Rq H.tb g (.eP m) cl sz):iE H t (.eP m)/\uK H t (.eP m) cl sz:=by
 have J:=(cX.1 hg).1;have b:=h.th g (h.mem hg);obtain⟨K,R,S⟩:g.bQ=[]/\1<=m/\m<=64:=by have:=b.ph;unfold iw at this;rw[hph]at this;exact this
 obtain⟨rfl,rfl⟩:=hr;have L:=h.eM t;have ga:=h.wi.ga _ _ L;obtain⟨e1,e2,Q,N,D⟩:=h.m6.cC (H.eM t) (m:Int) 1;have wi:=h.wi.xD L (m:Int) 1;rw[show(Wd.mk H.tb s0 H.bZ held).sp=s0 from rfl,←e1,←e2,←Q]at wi;by_cases h0:Q8 (H.eM t) H.sp (m:Int) 1=0
 ·rw[zC h0]at wi;have j:=Cx wi;have z:=I5 (held:=held) (new:=[(⟨H.own t, -1,QF (H.eM t) H.sp (m:Int) 1*256,(m:Int).toNat*256,false⟩:Pc)]) (cl:=-1) (l:=[((QF (H.eM t) H.sp (m:Int) 1*256:Nat):Int)]) (λp d=>by
   simp only[zN]at d;subst d;exact⟨rfl,rfl,by simp⟩) λx C=>by
   simp only[zN]at C;subst C;exact⟨_,zN.2 rfl,rfl⟩
  have i:(⟨H.own t, -1,QF (H.eM t) H.sp (m:Int) 1*256,(m:Int).toNat*256,false⟩:Pc)∈held++[(⟨H.own t, -1,QF (H.eM t) H.sp (m:Int) 1*256,(m:Int).toNat*256,false⟩:Pc)]:=by simp
  have E:=wi.size_pos i;have u:=wi.jQ i;have F:=wi.owner i (x:=QF (H.eM t) H.sp (m:Int) 1*256) (zD _) (by simp only at E ⊢;omega);generalize B:QF (H.eM t) H.sp (m:Int) 1=V at *;have r:bU H.live ((V*256:Nat):Int)=none:=h.tC λG P=>j _ (zN.2 rfl) G P;have A:WJ H t (.eP m)=({{H.cE (H.own t) (cC (H.eM t) H.sp (m:Int) 1).1 with sp:=(cC (H.eM t) H.sp (m:Int) 1).2,live:=dA H.live ((V*256:Nat):Int) (((V*256:Nat):Int),((m*256:Nat):Int), -1,Yi (H.bZ.set (H.own t) (cC (H.eM t) H.sp (m:Int) 1).1) ((V*256:Nat):Int))}with bR:=H.bR.set t g},none,((V*256:Nat):Int),0):=by
   have:H.bR.set t g=H.bR:=QR hg;rw[this];simp only[WJ,h0,zT,Hw.cE,V6,B]
  have e:=QD (H1:={H.cE (H.own t) (cC (H.eM t) H.sp (m:Int) 1).1 with sp:=(cC (H.eM t) H.sp (m:Int) 1).2,live:=dA H.live ((V*256:Nat):Int) (((V*256:Nat):Int),((m*256:Nat):Int), -1,Yi (H.bZ.set (H.own t) (cC (H.eM t) H.sp (m:Int) 1).1) ((V*256:Nat):Int))}) J A;have hi:=h.fA hg (g':={g with ph:=none}) (live':=dA H.live ((V*256:Nat):Int) (((V*256:Nat):Int),((m*256:Nat):Int), -1,Yi (H.bZ.set (H.own t) (cC (H.eM t) H.sp (m:Int) 1).1) ((V*256:Nat):Int))) wi N D.l (by simp[Wd.put]) (Ly wi) (λG y=>by
   rw[Cg _ r,D9 (l:=[((V*256:Nat):Int)]) (cl:=-1) aA (λy M=>by
    simp only[zN]at M;subst M;exact j _ (zN.2 rfl) _) z]
   unfold gS;rw[hph];simp only[jJ];omega) (Go.Vc.gZ h.lk) (λU w=>by
    rcases(Aq r).1 w with w|rfl
    ·exact .inl w
    ·refine .inr ⟨rfl,_,i,rfl,rfl,rfl,?_,?_⟩
     ·simp
     ·exact F) (λs a d=>by cases d) ⟨b.ll,b.lo,b.hb,b.hl,by
    unfold iw;exact K⟩
  refine⟨iE.mk' hg b.hl ?_ e hi D,.inr (.inr ?_)⟩
  ·show QF (H.eM t) H.sp (m:Int) 1<=1000000;rw[B];simp only at u;omega
  ·rw[e,A];exact⟨rfl,rfl,r,rfl⟩
 ·rw[zB h0]at wi;have B:QF (H.eM t) H.sp (m:Int) 1=0:=by
   unfold Q8 at h0;unfold QF;split
   ·rename_i d;rw[d,zC rfl]at h0;split at h0
    ·exact(h0 rfl).elim
    ·rename_i hn;cases C:(dC (H.eM t) H.sp (m:Int).toNat (1:Int).toNat 41).1 with
     | none=>rfl
     | some y=>rw[C]at hn;simp at hn
   ·rfl
  have A:WJ H t (.eP m)=({{H.cE (H.own t) (cC (H.eM t) H.sp (m:Int) 1).1 with sp:=(cC (H.eM t) H.sp (m:Int) 1).2}with bR:=H.bR.set t g},none,0,Q8 (H.eM t) H.sp (m:Int) 1):=by
   have:H.bR.set t g=H.bR:=QR hg;rw[this];simp only[WJ,h0,jR,Hw.cE]
  have e:=QD (H1:={H.cE (H.own t) (cC (H.eM t) H.sp (m:Int) 1).1 with sp:=(cC (H.eM t) H.sp (m:Int) 1).2}) J A;have hi:=h.fA hg (g':={g with ph:=none}) (live':=H.live) wi N D.l (by simp[Wd.put]) (λp d _=>.inl d) (λG y=>by
   unfold gS;rw[hph];simp only[jJ]) h.lk (λU w=>.inl w) (λs a d=>by cases d) ⟨b.ll,b.lo,b.hb,b.hl,by
    unfold iw;exact K⟩
  refine⟨iE.mk' hg b.hl ?_ e hi D,.inr (.inl ?_)⟩
  ·show QF (H.eM t) H.sp (m:Int) 1<=1000000;rw[B];omega
  ·rw[e,A];exact⟨rfl,h0,rfl,rfl⟩
theorem S6 {W:Wd}(h:WI W)(hk:W.bZ[k]?=some A){j:Nat}{l:List Int}(hl:∀x∈l,∃p∈W.held,lS k (j:Int) x p=true)(hn:l.Nodup)(hj:j<W.tb.length):Kv A (j:Int) l=0/\WI (W.put k (Z0 A (j:Int) l) W.sp (W.held.filter λp=>!eB k (j:Int) l p)):=by
 have ga:=h.ga k A hk;have g:jo W.held k (j:Int) l=true:=Vs.2 ⟨hl,hn⟩;obtain⟨c,y,_,d,_⟩:=ga.cl (k:=j) (by rw[h.tb k A hk];exact hj);have i:Kv A (j:Int) l=0:=by
  rw[GE ga d];refine Er ⟨λx u=>?_,hn⟩;obtain⟨p,s,b⟩:=hl x u;obtain⟨w,m,r,z⟩:=Vm.1 b;obtain⟨_,_,_,a,_⟩:=h.cls s m (by rw[w];exact hk);rw[r]at a;exact(VP d).1 a
 refine⟨i,?_⟩;have:=h.SP hk g;rw[zC i,h.yS g]at this;exact this
theorem JH {xs:List Int}{tb:List cA}{ars0:List AR}(hH:H.tb=tb)(h:WI ⟨tb,s0,H.bZ,held⟩)(hk:k<tb.length)(hxs:∀x∈xs,Um held (k:Int) x)(hn:xs.Nodup)(ha:∀p∈held,Yi ars0 (p.addr:Int)=(p.k:Int)):∀j,j<=H.bZ.length →
 ∃ars',VH H k (Qc ars0 xs) (List.range j) = {H with bZ:=ars'}/\ars'.length=H.bZ.length/\WI ⟨tb,s0,ars',held.filter λp=>!(decide (p.k<j)&&(p.cls==(k:Int)&&xs.contains (p.addr:Int)))⟩
 | 0,_=>by
  refine⟨H.bZ,rfl,rfl,?_⟩;have:(held.filter λp=>!(decide (p.k<0)&&(p.cls==(k:Int)&&xs.contains (p.addr:Int))))=held:=qH.2 λp _=>by simp
  rw[this];exact h
 | j+1,hj=>by
  obtain⟨ars',e,w,r⟩:=JH hH h hk hxs hn ha j O;rw[VL,e];have y:ars'[j]?=some (ars'[j]' O):=cW _;simp only[y];have b:∀{p:Pc},p∈held->p.k=j->((p.addr:Int)∈Qc ars0 xs j↔(p.addr:Int)∈xs):=λ{p} d a=>by
   unfold Qc;rw[zJ,ha p d,a];simp
  have g:((held.filter λp=>!(decide (p.k<j)&&(p.cls==(k:Int)&&xs.contains (p.addr:Int)))).filter λp=>!eB j (k:Int) (Qc ars0 xs j) p)=held.filter λp=>!(decide (p.k<j+1)&&(p.cls==(k:Int)&&xs.contains (p.addr:Int))):=by
   rw[C3];apply vP;intro p d;have e1:eB j (k:Int) (Qc ars0 xs j) p=(p.k==j&&(p.cls==(k:Int)&&xs.contains (p.addr:Int))):=by
    unfold eB;by_cases a:p.k=j
    ·have:=b d a;have e2:(Qc ars0 xs j).contains (p.addr:Int)=xs.contains (p.addr:Int):=by
      rw[kU,yZ,yZ];exact this
     rw[e2]
    ·have:(p.k==j)=false:=by simpa using a
     rw[this];rfl
   rw[e1];have A:decide (p.k<j+1)=(decide (p.k<j)||p.k==j):=by
    rw[kU];simp;omega
   rw[A];cases p.k==j<;>cases decide (p.k<j)<;>cases(p.cls==(k:Int)&&xs.contains (p.addr:Int))<;>rfl
  by_cases d:Qc ars0 xs j=[]
  ·rw[zC d];refine⟨ars',rfl,w,?_⟩;rw[←g,d];have:∀p:Pc,(!eB j (k:Int) [] p)=true:=λp=>by simp[eB]
   rw[qH.2 λp _=>this p];exact r
  ·rw[zB d];refine⟨ars'.set j (Z0 (ars'[j]' O) (k:Int) (Qc ars0 xs j)),by simp[Hw.cE],by simp[w],?_⟩;rw[←g];refine(S6 r y (j:=k) (l:=Qc ars0 xs j) (λx s=>?_) (hn.sublist ua) hk).2;unfold Qc at s;obtain⟨m,i⟩:=zJ.1 s;obtain⟨p,d,z,B,u⟩:=hxs x m;have a:p.k=j:=by
    have:=ha p d;rw[u]at this;rw[this]at i;have:(p.k:Int)=(j:Int):=by simpa using i
    omega
   exact⟨p,zJ.2 ⟨d,by simp[a]⟩,Vm.2 ⟨a,B,u,z⟩⟩
theorem L8 {tb:List cA}(hH:H.tb=tb)(h:WI ⟨tb,s0,H.bZ,held⟩){own:Nat}(hown:own<H.bZ.length)(hk:k<tb.length){xs:List Int}(hxs:∀x∈xs,Um held (k:Int) x)(hn:xs.Nodup) :
 ∃ars' held',Gp H own k xs = {H with bZ:=ars'}/\ars'.length=H.bZ.length/\WI ⟨tb,s0,ars',held'⟩/\(∀c x,Um held' c x↔Um held c x/\¬(c=(k:Int)/\x∈xs))/\∀p∈held',p.eU=false->p∈held:=by
 have u:H.bZ[own]?=some H.bZ[own]:=cW hown;have y:∀p∈held,Yi H.bZ (p.addr:Int)=(p.k:Int):=λp a=>h.owner a (zD _) (by have:=(h.size_pos a).1;omega);have all:∃ars' held',VH H k (Qc H.bZ xs) (List.range H.bZ.length) = {H with bZ:=ars'}/\ars'.length=H.bZ.length/\WI ⟨tb,s0,ars',held'⟩/\(∀c x,Um held' c x↔Um held c x/\¬(c=(k:Int)/\x∈xs))/\∀p∈held',p.eU=false->p∈held:=by
  obtain⟨ars',e,r,j⟩:=JH hH h hk hxs hn y H.bZ.length (zD _);refine⟨ars',_,e,r,j,λc x=>?_,λp a _=>(zJ.1 a).1⟩;constructor
  ·rintro⟨p,a,g,i,d⟩;obtain⟨a,hf⟩:=zJ.1 a;refine⟨⟨p,a,g,i,d⟩,?_⟩;rintro⟨rfl,b⟩;obtain⟨B,A,_⟩:=h.hf p a;have s:p.k<H.bZ.length:=(cX.1 A).1;rw[i,d]at hf;simp[s,b]at hf
  ·rintro⟨⟨p,a,g,i,d⟩,hno⟩;refine⟨p,zJ.2 ⟨a,?_⟩,g,i,d⟩;rw[i,d];by_cases hc:c=(k:Int)
   ·have:x∉xs:=λb=>hno ⟨hc,b⟩;simp[this]
   ·simp[hc]
 unfold Gp;rw[u];simp only;by_cases hcond:(Qc H.bZ xs own).length=xs.length/\VR H.bZ[own] (k:Int) xs=true
 ·rw[zC hcond];have m:∀x∈xs,Yi H.bZ x=(own:Int):=by
   have g:Qc H.bZ xs own=xs:=by
    unfold Qc at hcond ⊢;exact List.filter_sublist.eq_of_length hcond.1
   intro x b;rw[←g]at b;unfold Qc at b;simpa using(zJ.1 b).2
  have w:jo held own (k:Int) xs=true:=Vs.2 ⟨λx b=>by
   obtain⟨p,a,g,i,d⟩:=hxs x b;have z:=y p a;rw[d,m x b]at z;exact⟨p,a,Vm.2 ⟨O,i,d,g⟩⟩,hn⟩
  have j:=h.PZ u w;rw[zC hcond.2]at j;exact⟨_,_,rfl,by simp[Hw.cE],j,WkR h w,Nt⟩
 ·rw[zB hcond];have e:(if(Qc H.bZ xs own).length=xs.length then H.cE own (KH H.bZ[own] (k:Int) xs)else H)=H:=by
   split
   ·rename_i r;have C:VR H.bZ[own] (k:Int) xs=false:=by
     apply nM.2;intro b;exact hcond ⟨r,b⟩
    have:KH H.bZ[own] (k:Int) xs=H.bZ[own]:=by unfold KH;rw[C];rfl
    rw[this];exact FD u
   ·rfl
  rw[e];exact all
def lJ:Ph->Prop
 | .find _=>True
 | .put _ _=>True
 | .back=>True
 | .dH _ _=>True
 | .drain=>True
 | _=>False
def qh (g:Th):Ph->Nat
 | .find _=>101
 | .put _ _=>100
 | .drain=>100
 | .back=>g.bQ.length
 | _=>0
def nK (H:Hw)(t:Nat)(g:Th)(p:Ph):Prop:=(WJ H t p).2.2.1=0 ∧
 ((∃p' g',(WJ H t p).2.1=some p'/\lJ p'/\(∀x,p'≠.find x)/\(Ke H t p).bR[t]?=some g'/\qh g' p'<qh g p)\/(WJ H t p).2.1=none) ∧
 ((∀x,p≠.find x)->(WJ H t p).2.2.2=0/\(Ke H t p).live=H.live) ∧
 (∀x,p=.find x->(bU H.live x=none->(WJ H t p).2.1=none/\(WJ H t p).2.2.2≠0/\(Ke H t p).live=H.live)/\(∀b,bU H.live x=some b->(WJ H t p).2.2.2=0/\(Ke H t p).live=cO H.live x))
theorem BA (hg:H.bR[t]?=some g):j9 H t=if g.bQ=[]then none else some .back:=by unfold j9;rw[hg]
theorem T6 (h:HI H held s0)(hg:H.bR[t]?=some g){x:Int}(hph:g.ph=some (.find x)):iE H t (.find x)/\nK H t g (.find x):=by
 have D:=(cX.1 hg).1;have d:=h.th g (h.mem hg);obtain⟨M,C⟩:g.bQ=[]/\iL x:=by have:=d.ph;unfold iw at this;rw[hph]at this;exact this
 have P:∀A∈H.bZ,iO A:=λA R=>by
  obtain⟨j,hj⟩:=zP R;exact(h.wi.ga j A hj).pn
 cases hm:bU H.live x with
 | none=>
  have z:WJ H t (.find x)=({H with bR:=H.bR.set t g},none,0,lR H x):=by
   have:H.bR.set t g=H.bR:=QR hg;rw[this];simp only[WJ,HC,hm]
  have e:=QD D z;have hi:=h.kF hg (g':={g with ph:=none}) (live':=H.live) (λJ x=>by
   unfold gS;rw[hph];simp only[jJ]) h.lk (λW F=>.inl F) (λs a N=>by cases N) ⟨d.ll,d.lo,d.hb,d.hl,by
    unfold iw;exact M⟩
  refine⟨iE.mk' hg d.hl ⟨C,λ_=>P,λb hb=>by rw[hm]at hb;cases hb⟩ e hi (KS.refl _),?_⟩;unfold nK;rw[e,z];refine⟨rfl,.inr rfl,λi=>(i x rfl).elim,λy m=>?_⟩;cases m;refine⟨λ_=>⟨rfl,?_,rfl⟩,(λb hb=>by rw[hm]at hb;cases hb)⟩;show lR H x≠0;unfold lR
  repeat' split
  all_goals simp
 | some b=>
  have U:=Qi hm;obtain⟨_,p,N,Z,Q,Y,h4,V⟩:=h.lv _ U;simp only at Q Y h4 V;have S:0<=x:=by omega
  obtain⟨A,R,hd⟩:=h.wi.hf p N;have X:u7 H t (.find x):=⟨C,(λi=>by rw[hm]at i;cases i),λ_ _=>S⟩;rcases hd with⟨c1,_,r,hr,c2,c3⟩|⟨j,c,c1,c2,c3,_⟩
  ·have E:b.2.2.1 = -1:=by rw[←Q,c1]
   have z:WJ H t (.find x)=({{H with live:=cO H.live x}with bR:=H.bR.set t g},some (.dH (x/256) b.2.2.2),0,0):=by
    have:H.bR.set t g=H.bR:=QR hg;rw[this];simp only[WJ,HC,hm];rw[zC O]
   have e:=QD (H1:={H with live:=cO H.live x}) D z;have u:x/256*256=x:=by omega
   have hi:=h.kF hg (g':={g with ph:=some (.dH (x/256) b.2.2.2)}) (live':=cO H.live x) (λJ y=>by
    have w:=DQ h.lk hm J y;rw[E]at w;unfold gS;rw[hph];simp only[jJ,u];by_cases m:x=y
    ·subst m;rw[Ck]at w;by_cases hk : -1=J
     ·rw[zC hk]at w;rw[zC ⟨hk.symm,rfl⟩];omega
     ·rw[zB hk]at w;rw[zB (λC=>hk C.1.symm)];omega
    ·have:[x].count y=0:=AW.2 aE;rw[this]at w;rw[zB (λC=>m C.2.symm)];split at w<;>omega)
    (Go.Vc.jn h.lk) (λW F=>.inl (AJ.1 F).1) (λs a B=>by
     cases B;exact⟨p,N,Z,c1,by rw[u];exact Y,V⟩) ⟨d.ll,d.lo,d.hb,d.hl,by
      unfold iw;exact M⟩
   refine⟨iE.mk' hg d.hl X e hi (KS.refl _),?_⟩;unfold nK;rw[e,z];refine⟨rfl,.inl ⟨_,_,rfl,trivial,(λy m=>by cases m),zO D,by simp[qh]⟩,λi=>(i x rfl).elim,λy m=>?_⟩;cases m;exact⟨(λi=>by rw[hm]at i;cases i),λ_ _=>⟨rfl,rfl⟩⟩
  ·have K:b.2.2.1=(j:Int):=by rw[←Q,c1]
   have L:j<H.tb.length:=by
    rw[h.wi.tb _ _ R]at c2;exact(cX.1 c2).1
   have z:WJ H t (.find x)=({{H with live:=cO H.live x}with bR:=H.bR.set t {g with bQ:=[(j,[x])]}},some (.put j x),0,0):=by
    simp only[WJ,HC,hm];rw[zB O,K,dG];unfold Ko;rw[ZY (g:=g) (by exact hg),M];rfl
   have e:=QD (H1:={H with live:=cO H.live x}) D z;have hi:=h.kF hg (g':={g with bQ:=[(j,[x])],ph:=some (.put j x)}) (live':=cO H.live x) (λJ y=>by
    have w:=DQ h.lk hm J y;rw[K]at w;unfold gS;rw[hph,M];simp only[jJ,Vo,V7];omega)
    (Go.Vc.jn h.lk) (λW F=>.inl (AJ.1 F).1) (λs a B=>by cases B) ⟨d.ll,d.lo,λb' G=>by
     simp only[zN]at G;subst G;exact⟨L,by simp,by simp⟩,by simp,by
     unfold iw;exact⟨rfl,L⟩⟩
   refine⟨iE.mk' hg d.hl X e hi (KS.refl _),?_⟩;unfold nK;rw[e,z];refine⟨rfl,.inl ⟨_,_,rfl,trivial,(λy m=>by cases m),zO D,by simp[qh]⟩,λi=>(i x rfl).elim,λy m=>?_⟩;cases m;exact⟨(λi=>by rw[hm]at i;cases i),λ_ _=>⟨rfl,rfl⟩⟩
theorem Ie {f:cA->Li->List Int×Li}{tb:List cA}{ls:List Li}{b:Bt}(h:b∈KM f tb ls):b.1<tb.length/\b.2≠[]/\∃c∈tb,∃l∈ls,b.2=(f c l).1:=by
 unfold KM at h;obtain⟨k,d,a⟩:=xC.1 h;split at a
 ·rename_i c l hc hl;split at a
  ·cases a
  ·cases a;exact⟨zg.1 d,by assumption,c,zG hc,l,zG hl,rfl⟩
 ·cases a
theorem Ln {f:cA->Li->List Int×Li}{tb:List cA}{ls:List Li}{l':Li}(h:l'∈KG f tb ls):∃c∈tb,∃l∈ls,l'=(f c l).2:=by
 unfold KG at h;obtain⟨i,hi⟩:=zP h;rw[BR]at hi;split at hi
 ·rename_i c l hc hl;cases hi;exact⟨c,zG hc,l,zG hl,rfl⟩
 ·cases hi
theorem Iu {f:cA->Li->List Int×Li}{tb:List cA}{ls:List Li}(h:ls.length=tb.length):(KG f tb ls).length=tb.length:=by
 unfold KG;rw[List.length_zipWith];omega
theorem FR (c:cA)(l:Li):(Vw c l).2.os.length<=l.os.length/\(Vw c l).1.length<=l.os.length:=by
 simp only[Vw,gM,kg,zY];omega
theorem Fq (c:cA)(l:Li):(Qd c l).2.os.length<=l.os.length/\(Qd c l).1.length<=l.os.length:=by
 simp only[Qd,gM,kg,zY];omega
theorem Ν (h:HI H held s0)(hg:H.bR[t]?=some g)(hph:g.ph=some .drain):iE H t .drain/\nK H t g .drain:=by
 have m:=(cX.1 hg).1;have d:=h.th g (h.mem hg);have z:g.bQ=[]:=by have:=d.ph;unfold iw at this;rw[hph]at this;exact this
 have E:=h.rz;have J:=CA Qd H.tb g.ls;have u:WJ H t .drain=({H with bR:=H.bR.set t {g with ls:=KG Qd H.tb g.ls,bQ:=KM Qd H.tb g.ls}},(if KM Qd H.tb g.ls=[]then none else some .back),0,0):=by
  simp only[WJ,ZY hg];rw[BA (g:={g with ls:=KG Qd H.tb g.ls,bQ:=KM Qd H.tb g.ls}) (by simp[m])]
 have e:=QD m u;have hi:=h.kF hg (g':={ls:=KG Qd H.tb g.ls,bQ:=KM Qd H.tb g.ls,ph:=if KM Qd H.tb g.ls=[]then none else some .back}) (live':=H.live) (λr x=>by
  have K:=JK (f:=Qd) Pb d.ll r x;unfold gS;rw[hph,z];have:jJ (if KM Qd H.tb g.ls=[]then none else some Ph.back) r x=0:=by split<;>rfl
  simp only[this,V7];simp only[jJ];omega) h.lk (λL B=>.inl B) (λs a p=>by
   simp only at p;split at p<;>cases p) ⟨Iu d.ll,λl hl=>by
   obtain⟨c,_,j,i,rfl⟩:=Ln hl;have:=d.lo j i;have:=Fq c j;exact⟨Wh0 (d.lo j i).1,O⟩,λb w=>by
   obtain⟨C,A,c,_,j,i,G⟩:=Ie w;have:=d.lo j i;have:=Fq c j;exact⟨C,A,by rw[G];omega⟩,by simp only;omega,by
   unfold iw;by_cases ho:KM Qd H.tb g.ls=[]
   ·rw[zC ho];exact ho
   ·rw[zB ho];exact ho⟩
 refine⟨iE.mk' hg d.hl trivial e hi (KS.refl _),?_⟩;unfold nK;rw[e,u];refine⟨rfl,?_,λ_=>⟨rfl,rfl⟩,λx F=>by cases F⟩;by_cases ho:KM Qd H.tb g.ls=[]
 ·exact .inr (by simp only;rw[zC ho])
 ·exact .inl ⟨.back,_,by simp only;rw[zB ho],trivial,(λy D=>by cases D),zO m,by simp only[qh];omega⟩
theorem Wl5 (h:HI H held s0)(hg:H.bR[t]?=some g){s a:Int}(hph:g.ph=some (.dH s a)):iE H t (.dH s a)/\nK H t g (.dH s a):=by
 have L:=(cX.1 hg).1;have b:=h.th g (h.mem hg);have M:g.bQ=[]:=by have:=b.ph;unfold iw at this;rw[hph]at this;exact this
 obtain⟨p,C,V,Q,h3,Z⟩:=h.gv g (h.mem hg) s a hph;obtain⟨A,w,_⟩:=h.wi.hf p C;have m:H.bZ[p.k]?=some A:=w;have R:=(cX.1 m).1;obtain⟨_,r,G,W,X⟩:=h.wi.run C Q w;have ga:=h.wi.ga _ _ w;have d:s=(r.1:Int):=by omega
 have U:VB A s=0:=by
  unfold VB;rw[zC];unfold qt;rw[Ee];exact⟨r,G,by simp[d]⟩
 have F:jo held p.k (-1) [s*256]=true:=by rw[d];exact h.wi.m5 w G
 have wi:=h.wi.yf w s;rw[zC U,h.wi.yS F]at wi;have u:a.toNat=p.k:=by omega
 have K:WJ H t (.dH s a)=({H.cE p.k (Kc A s)with bR:=H.bR.set t g},none,0,0):=by
  have:H.bR.set t g=H.bR:=QR hg;rw[this];simp only[WJ,u,m,Hw.cE]
 have e:=QD (H1:=H.cE p.k (Kc A s)) L K;have hi:=h.fA hg (g':={g with ph:=none}) (live':=H.live) wi h.m6 rfl (by simp[Wd.put]) (λq E _=>.inl (zJ.1 E).1) (λz x=>by
  have i:=Ei (held':=held.filter λD=>!eB p.k (-1) [s*256] D) (l:=[s*256]) (cl:=-1) aA (Sc F) (Rt h.wi F) z x;have i:lf held z x=lf (held.filter λD=>!eB p.k (-1) [s*256] D) z x+(if -1=z then[s*256].count x else 0):=i
  unfold gS;rw[hph];simp only[jJ];by_cases hy:s*256=x
  ·subst hy;rw[Ck]at i;by_cases hk : -1=z
   ·rw[zC hk]at i;rw[zC ⟨hk.symm,rfl⟩];omega
   ·rw[zB hk]at i;rw[zB (λy=>hk y.1.symm)];omega
  ·have:[s*256].count x=0:=AW.2 aE;rw[this]at i;rw[zB (λy=>hy y.2.symm)];split at i<;>omega) h.lk (λY P=>.inl P) (λs a C=>by cases C) ⟨b.ll,b.lo,b.hb,b.hl,by
   unfold iw;exact M⟩
 refine⟨iE.mk' hg b.hl ⟨O,O,λB N q E=>?_⟩ e hi (KS.refl _),?_⟩
 ·obtain⟨j,S⟩:=zP N;have J:=h.wi.ga j B S;have:=J.fit E;have:=J.pg.n2;omega
 ·unfold nK;rw[e,K];exact⟨rfl,.inr rfl,λ_=>⟨rfl,rfl⟩,λx y=>by cases y⟩
theorem PO (h:HI H held s0)(hg:H.bR[t]?=some g)(hph:g.ph=some .back):iE H t .back/\nK H t g .back:=by
 have D:=(cX.1 hg).1;have d:=h.th g (h.mem hg);have M:g.bQ≠[]:=by have:=d.ph;unfold iw at this;rw[hph]at this;exact this
 have C:=GY hg;cases hhd:g.bQ with
 | nil=>exact(M hhd).elim
 | cons b r=>
  obtain⟨k,B⟩:=b;obtain⟨J,w,E⟩:=d.hb (k,B) (by rw[hhd];simp);simp only at J w E;have j:∀x,B.count x<=gS g (k:Int) x:=λx=>by
   unfold gS;rw[hhd,Vo,zC rfl];simp only;omega
  have i:∀x∈B,Um held (k:Int) x:=λx u=>h.rJ (h.mem hg) (ku (D1.2 u) (j x));have A:B.Nodup:=CI.2 λx=>by
   have N:=j x;have U:=h.pG (h.mem hg) (k:Int) x;have W:=Jl held (k:Int) x;omega
  obtain⟨m,F,Q,G,wi,um,sub⟩:=L8 (H:={H with bR:=H.bR.set t {g with bQ:=r}}) (tb:=H.tb) rfl h.wi (h.j8 t) J i A;have L:WJ H t .back=({{H with bZ:=m}with bR:=H.bR.set t {g with bQ:=r}},(if r=[]then none else some .back),0,0):=by
   simp only[WJ,C,hhd,ZY hg,Q];rw[BA (g:={g with bQ:=r}) (by simp[D])]
  have e:=QD (H1:={H with bZ:=m}) D L;have hi:=h.fA hg (g':={g with bQ:=r,ph:=if r=[]then none else some .back}) (live':=H.live) wi h.m6 rfl G (λp z S=>.inl (sub p z S)) (λK x=>by
   have N:=Ei A i um K x;unfold gS;rw[hph,hhd,Vo];have:jJ (if r=[]then none else some Ph.back) K x=0:=by split<;>rfl
   simp only[this];simp only[jJ];omega) h.lk (λV P=>.inl P) (λs a z=>by
    simp only at z;split at z<;>cases z) ⟨d.ll,d.lo,λb hb=>d.hb b (by rw[hhd];exact mj _ hb),by have:=d.hl;rw[hhd]at this;simp at this ⊢;omega,by
    unfold iw;by_cases ho:r=[]
    ·rw[zC ho];exact ho
    ·rw[zB ho];exact ho⟩
  refine⟨iE.mk' hg d.hl ⟨k,B,r,by rw[C];exact hhd,λx u=>⟨(h.i63 (i x u)).1,(h.i63 (i x u)).2.2⟩,O⟩ e hi (KS.refl _),?_⟩;unfold nK;rw[e,L];refine⟨rfl,?_,λ_=>⟨rfl,rfl⟩,λx u=>by cases u⟩;by_cases ho:r=[]
  ·exact .inr (by simp only;rw[zC ho])
  ·exact .inl ⟨.back,_,by simp only;rw[zB ho],trivial,(λy R=>by cases R),zO D,by simp only[qh];rw[hhd];simp⟩
theorem LS (h:HI H held s0)(hg:H.bR[t]?=some g){x:Int}(hph:g.ph=some (.put k x)):iE H t (.put k x)/\nK H t g (.put k x):=by
 have B:=(cX.1 hg).1;have r:=h.th g (h.mem hg);obtain⟨J,L⟩:g.bQ=[(k,[x])]/\k<H.tb.length:=by have:=r.ph;unfold iw at this;rw[hph]at this;exact this
 obtain⟨c,hc,E⟩:=h.cls L;obtain⟨l,hl,U,D,hlm⟩:=r.li L;have G:=GY hg;have h40:=h.rz;have P:=Ml (x:=x) E D;have W:=NV c x l O;have X:(dN c x l).1.length<=129/\(dN c x l).2.os.length<=128:=by
  have hlim:=D.lim;have z:(eL [x] l).os=l.os++[x]:=by unfold eL;rw[zB aE]
  have S:(mK c (eL [x] l)).os=l.os++[x]:=by rw[←z];unfold mK;split<;>rfl
  unfold cA.ok at E;unfold dN;rw[zB O];split
  ·rw[z];simp;omega
  ·simp only[gM,S,zY,kg,zK,sv];omega
 obtain⟨R,V⟩:=r.ir (k:=k) P X.2;have aa:∃hs:List Bt,(if(dN c x l).1=[]then[]else[(k,(dN c x l).1)])=hs:=⟨_,rfl⟩
 obtain⟨i,j⟩:=aa;have hs2l:i.length<=1:=by rw[←j];split<;>simp
 have w:∀b∈i,b.1<H.tb.length/\b.2≠[]/\b.2.length<=256:=λb m=>by
  rw[←j]at m;split at m
  ·simp at m
  ·simp only[zN]at m;subst m;exact⟨L,by assumption,by simp only;omega⟩
 have F:∀d y,mc i d y=if(k:Int)=d then(dN c x l).1.count y else 0:=λd y=>by
  rw[←j];split
  ·rename_i hn;rw[hn,V7];simp
  ·simp only[Vo,V7,kA]
 let g3:Th:={g with ls:=g.ls.set k (dN c x l).2,bQ:=i}
 let g4:Th:=if H.cf.dD<KD H.tb g3.ls then{g3 with ls:=KG Vw H.tb g3.ls,bQ:=g3.bQ++KM Vw H.tb g3.ls}else g3
 have Z:iz H t k x = {H with bR:=H.bR.set t g4}:=by
  have e2:(if(dN c x l).1=[]then H.eA t λh=>h.ir k (dN c x l).2 else Ko (H.eA t λh=>h.ir k (dN c x l).2) t k (dN c x l).1) = {H with bR:=H.bR.set t {g with ls:=g.ls.set k (dN c x l).2,bQ:=(k,[x])::i}}:=by
   rw[←j];split
   ·rw[ZY hg,←J];rfl
   ·rw[ZY hg];unfold Ko;rw[ZY (g:=g.ir k (dN c x l).2) (by simp[B])];simp only[nB,Th.ir,J];rfl
  have e3:({H with bR:=H.bR.set t {g with ls:=g.ls.set k (dN c x l).2,bQ:=(k,[x])::i}}:Hw).eA t (λh=>{h with bQ:=h.bQ.drop 1}) = {H with bR:=H.bR.set t g3}:=by
   rw[ZY (g:={g with ls:=g.ls.set k (dN c x l).2,bQ:=(k,[x])::i}) (by simp[B])];simp only[nB,vX,yO];rfl
  have u:({H with bR:=H.bR.set t g3}:Hw).bR[t]?=some g3:=by simp[B]
  unfold iz;simp only[UF hc,G,U,e2,e3,GY u,ZY u,nB];show(if H.cf.dD<KD H.tb g3.ls then _ else _)=_
  simp only[g4];split<;>rfl
 have hg4:g4.ph=g.ph:=by simp only[g4];split<;>rfl
 have Y:∀d y,lV g4.ls d y+mc g4.bQ d y=lV g.ls d y+mc g.bQ d y:=λd y=>by
  have M:=A9 hl (dN c x l).2 d y;have h2:=W y;have h3:lV g3.ls d y+mc g3.bQ d y=lV g.ls d y+mc g.bQ d y:=by
   simp only[g3];rw[F,J,Vo,V7];by_cases hkk:(k:Int)=d
   ·simp only[hkk,zT]at M ⊢;omega
   ·simp only[hkk,jR]at M ⊢;omega
  simp only[g4];split
  ·have h4:=JK (f:=Vw) Pt (tb:=H.tb) (ls:=g3.ls) R d y;simp only[J9];omega
  ·exact h3
 have p:g4.ls.length=H.tb.length/\(∀l∈g4.ls,fP l/\l.os.length<=128)/\(∀b∈g4.bQ,b.1<H.tb.length/\b.2≠[]/\b.2.length<=256)/\g4.bQ.length<=41:=by
  have hsl:=CA Vw H.tb g3.ls;simp only[g4];split
  ·refine⟨Iu R,λl hl=>?_,λb m=>?_,by simp only[zK,g3]at *;omega⟩
   ·obtain⟨K,Q,C,A,rfl⟩:=Ln hl;have h5:=V C A;have:=FR K C;exact⟨Fy (h.ok K Q) h5.1,O⟩
   ·rcases zM.1 m with m|m
    ·exact w b m
    ·obtain⟨b1,b2,K,_,C,A,b3⟩:=Ie m;have h5:=V C A;have:=FR K C;exact⟨b1,b2,by rw[b3];omega⟩
  ·exact⟨R,V,w,by simp only[g3];omega⟩
 have hs:WJ H t (.put k x)=({H with bR:=H.bR.set t g4},(if g4.bQ=[]then none else some .back),0,0):=by
  show(iz H t k x,j9 (iz H t k x) t,0,0)=_;rw[Z,BA (g:=g4) (by simp[B])]
 have e:=QD B hs;have hi:=h.kF hg (g':={g4 with ph:=if g4.bQ=[]then none else some .back}) (live':=H.live) (λd y=>by
  have M:=Y d y;unfold gS;rw[hph];have:jJ (if g4.bQ=[]then none else some Ph.back) d y=0:=by split<;>rfl
  simp only[this];simp only[jJ];omega) h.lk (λe' he=>.inl he) (λs a N=>by
   simp only at N;split at N<;>cases N) ⟨p.1,p.2.1,p.2.2.1,p.2.2.2,by
   unfold iw;by_cases ho:g4.bQ=[]
   ·simp only[ho,zT]
   ·simp only[ho,jR];exact ho⟩
 refine⟨iE.mk' hg r.hl ⟨L,by rw[G,J];simp⟩ e hi (KS.refl _),?_⟩;unfold nK;rw[e,hs];refine⟨rfl,?_,λ_=>⟨rfl,rfl⟩,λx hx=>by cases hx⟩;by_cases ho:g4.bQ=[]
 ·exact .inr (by simp only;rw[zC ho])
 ·exact .inl ⟨.back,_,by simp only;rw[zB ho],trivial,(λy hy=>by cases hy),zO B,by simp only[qh];have:=p.2.2.2;omega⟩
end Go.Ar
namespace Go.Ar
open Go Go.Vc Go.Proofs
open Go.Bu (fo VK Hz)
variable {U u w w':Hp}{F B P Q:Rg}{L:dE}{H H':Hw}{t n:Nat}{g:Th}
def yW (size:Int):Int:=(size+255)/256*256
def oZ (tb:List cA)(size align:Int):Int×Int:=
 if size<=16384/\Hl size align=true then(match hO tb size align with
  | some k=>((tb.getD k ⟨8,1,1⟩).size:Int)
  | none=>yW size,0)else(0,1)
theorem TC {a:Int}(h1:1<=a)(h2:a<=256):(bits .and .i64 a (a-1) != 0) = !fo a:=by
 obtain⟨a,rfl⟩:=zc (show 0<=a by omega);rw[show(a:Int)-1=((a-1:Nat):Int) by omega,Go.Bu.jg O O,VK,←Hz O O];simp only[bne,Bool.not_inj_iff];rw[kU];simp only[zU];omega
def QZ (sp:Sp)(x:Int):Int:=if eO sp x=0 then sp.wd (x.toNat/8)else 0
theorem Gb (h:HH U F L H)(x:Int)(hx:x<=9223372036854775807){R:Int->Int->Hp->Prop}(hR:∀σ',aF U σ'->R (QZ H.sp x) (eO H.sp x) σ'):Yd.c (aW L.p) x U R:=R9 h x hx hR
end Go.Ar
namespace Go.Ar
open Go Go.Vc Go.Proofs
variable {U u w w':Hp}{F B P Q:Rg}{L:dE}{H H':Hw}{t n:Nat}{g:Th}
def Kx (H:Hw)(x:Int):Option Int:=(bU H.live x).map λb=>b.2.1
theorem IY {tb:List cA}{size align:Int}{k:Nat}(h:hO tb size align=some k):k<tb.length:=(List.findIdx?_eq_some_iff_findIdx_eq.1 h).1
theorem E0 (h:HH U F L H)(x:Int){R:Int->Int->Hp->Prop}(hR:∀σ',aF U σ'->R ((Kx H x).getD 0) (if(Kx H x).isSome then 0 else 8) σ'):XW.c (aW L.p) x U R:=by
 refine WgJ h x λσ' e=>?_;have:=hR σ' e;unfold Kx at this;cases hm:bU H.live x with
 | none=>rw[hm]at this;exact this
 | some b=>rw[hm]at this;exact this
end Go.Ar
namespace Go.Ar
open Go.Vc (bU dA cO)
variable {H H':Hw}{held:List Pc}{s0:Sp}{t k j:Nat}{g:Th}{A:AR}{c:cA}
theorem Vp (f:Th->Th)(hj:j≠t):(H.eA t f).bR[j]?=H.bR[j]? := by
 simp[Hw.eA,uz,Ne.symm hj]
theorem M8 (x:Int)(hj:j≠t):(iz H t k x).bR[j]?=H.bR[j]? := by
 unfold iz Ko;simp only;split<;>split<;>simp only[Vp _ hj]
theorem Tf (p:Ph)(hj:j≠t):(WJ H t p).1.bR[j]?=H.bR[j]? := by
 cases p with
 | take k=>simp only[WJ];split<;>simp only[V6,Vp _ hj]
 | cJ k w=>
  simp only[WJ];split
  ·split
   ·unfold Ko;rw[Vp _ hj];rfl
   ·rfl
  ·rfl
 | cL k w=>
  simp only[WJ];split
  ·rfl
  ·unfold Ko;rw[Vp _ hj];rfl
 | grow k w=>simp only[WJ];split<;>rfl
 | fill=>simp only[WJ];split<;>simp only[V6,Vp _ hj]
 | eP m=>simp only[WJ];split<;>rfl
 | find x=>
  simp only[WJ,HC];split
  ·rfl
  ·split
   ·rfl
   ·unfold Ko;rw[Vp _ hj]
 | put k x=>exact M8 x hj
 | back=>
  simp only[WJ];split
  ·rw[CR,Vp _ hj]
  ·rfl
 | dH s a=>simp only[WJ];split<;>rfl
 | drain=>simp only[WJ,Vp _ hj]
theorem UX (p:Ph)(hj:j≠t):(Ke H t p).bR[j]?=H.bR[j]? := by
 unfold Ke eW;rw[Vp _ hj,Tf p hj]
def fK (H:Hw)(j:Nat):Option Ph:=(H.bR[j]?).bind (·.ph)
def ya (H H':Hw)(t:Nat):Prop:=fK H' t=none/\∀j,j≠t->fK H' j=fK H j
theorem BX (h:HI H held s0)(hg:H.bR[t]?=some g){p:Ph}(hp:g.ph=some p)(hf:¬lJ p):∃cl sz,Rq H.tb g p cl sz:=by
 have b:=(h.th g (h.mem hg)).ph;unfold iw at b;rw[hp]at b;cases p with
 | take k=>obtain⟨c,d,_⟩:=h.cls b.2;exact⟨_,_,rfl,c,d,rfl⟩
 | cJ k w=>obtain⟨c,d,_⟩:=h.cls b.2.1;exact⟨_,_,rfl,c,d,rfl⟩
 | cL k w=>obtain⟨c,d,_⟩:=h.cls b.2.1;exact⟨_,_,rfl,c,d,rfl⟩
 | grow k w=>obtain⟨c,d,_⟩:=h.cls b.2.1;exact⟨_,_,rfl,c,d,rfl⟩
 | fill=>
  obtain⟨k,x,r,i,j,_⟩:=b;obtain⟨c,d,_⟩:=h.cls j;exact⟨_,_,k,_,[],c,i,rfl,d,rfl⟩
 | eP m=>exact⟨_,_,rfl,rfl⟩
 | find x=>exact(hf trivial).elim
 | put k x=>exact(hf trivial).elim
 | back=>exact(hf trivial).elim
 | dH s a=>exact(hf trivial).elim
 | drain=>exact(hf trivial).elim
theorem rK (h:HI H held s0)(hg:H.bR[t]?=some g){p:Ph}(hp:g.ph=some p){cl sz:Int}(hr:Rq H.tb g p cl sz):iE H t p/\uK H t p cl sz:=by
 cases p with
 | take k=>exact Τ h hg hp hr
 | cJ k w=>exact MS h hg hp hr
 | cL k w=>exact MY h hg hp hr
 | grow k w=>exact Ma h hg hp hr
 | fill=>exact Pn h hg hp hr
 | eP m=>exact To h hg hp hr
 | find x=>exact hr.elim
 | put k x=>exact hr.elim
 | back=>exact hr.elim
 | dH s a=>exact hr.elim
 | drain=>exact hr.elim
theorem r4 (h:HI H held s0)(hg:H.bR[t]?=some g){p:Ph}(hp:g.ph=some p)(hf:lJ p):iE H t p/\nK H t g p:=by
 cases p with
 | take k=>exact hf.elim
 | cJ k w=>exact hf.elim
 | cL k w=>exact hf.elim
 | grow k w=>exact hf.elim
 | fill=>exact hf.elim
 | eP m=>exact hf.elim
 | find x=>exact T6 h hg hp
 | put k x=>exact LS h hg hp
 | back=>exact PO h hg hp
 | dH s a=>exact Wl5 h hg hp
 | drain=>exact Ν h hg hp
open Classical in
theorem HI.PJ (h:HI H held s0)(hg:H.bR[t]?=some g){p:Ph}(hp:g.ph=some p):iE H t p:=by
 by_cases hf:lJ p
 ·exact(r4 h hg hp hf).1
 ·obtain⟨cl,b,a⟩:=BX h hg hp hf;exact(rK h hg hp a).1
theorem Gh {p:Ph}(ht:t<H.bR.length):∃g',(Ke H t p).bR[t]?=some g'/\g'.ph=(WJ H t p).2.1:=Jg ht
theorem Lo {cl sz:Int}:∀(n:Nat) {H:Hw} {held:List Pc} {s0:Sp} {g:Th} {p:Ph},HI H held s0->H.bR[t]?=some g->g.ph=some p->Rq H.tb g p cl sz->oV H t p<=n →
 ∃m H' a e,iG m H t p H' a e/\(∃held s0,HI H' held s0)/\KS H.sp H'.sp/\ya H H' t/\((e≠0/\a=0/\H'.live=H.live)\/(e=0/\bU H.live a=none/\H'.live=dA H.live a (a,sz,cl,Yi H'.bZ a)))
 | n,H,held,s0,g,p,h,hg,hp,hr,hn=>by
  have ht:=(cX.1 hg).1;obtain⟨s,F⟩:=rK h hg hp hr;have b:(WJ H t p).2.1=none->ya H (Ke H t p) t:=λD=>by
   obtain⟨C,y,x⟩:=Gh (p:=p) ht;exact⟨by unfold fK;rw[y];exact x.trans D,λj u=>by unfold fK;rw[UX p u]⟩
  rcases F with⟨p',C,e1,e2,e3,e4,e5⟩|⟨e1,e2,e3,e4⟩|⟨e1,e2,e3,e4⟩
  ·obtain⟨z,E,B⟩:=s.hi;obtain⟨J,i,kj⟩:=Gh (p:=p) ht;rw[e3]at i;cases i;have w:(Ke H t p).tb=H.tb:=(Ha H t p).1;have G:oV (Ke H t p) t p'<n:=by omega
   obtain⟨m,H',a,e,r,hi,ks,A,d⟩:=Lo (oV (Ke H t p) t p') B e3 (kj.trans e1) (by rw[w];exact e4) (zD _);refine⟨m+1,H',a,e,.next s.ok e1 r,hi,s.ks.trans ks,⟨A.1,λj u=>(A.2 j u).trans (by unfold fK;rw[UX p u])⟩,?_⟩;rw[e2]at d;exact d
  ·exact⟨1,_,_,_,.done s.ok e1,s.hi,s.ks,b e1,.inl ⟨e2,e3,e4⟩⟩
  ·exact⟨1,_,_,_,.done s.ok e1,s.hi,s.ks,b e1,.inr ⟨e2,e3,e4⟩⟩
termination_by n=>n
theorem FP:∀(n:Nat) {H:Hw} {held:List Pc} {s0:Sp} {g:Th} {p:Ph},HI H held s0->H.bR[t]?=some g->g.ph=some p->lJ p->qh g p<=n →
 ∃m H' e,iG m H t p H' 0 e/\(∃held s0,HI H' held s0)/\KS H.sp H'.sp/\ya H H' t/\((∀x,p≠.find x)->e=0/\H'.live=H.live) ∧
  (∀x,p=.find x->(bU H.live x=none->e≠0/\H'.live=H.live)/\(∀b,bU H.live x=some b->e=0/\H'.live=cO H.live x))
 | n,H,held,s0,g,p,h,hg,hp,hf,hn=>by
  have ht:=(cX.1 hg).1;obtain⟨s,Q,M,J,a⟩:=r4 h hg hp hf;rcases M with⟨p',A,e1,e2,e3,e4,e5⟩|e1
  ·obtain⟨D,N,K⟩:=s.hi;obtain⟨R,i,kj⟩:=Gh (p:=p) ht;rw[e4]at i;cases i;have P:qh A p'<n:=by omega
   obtain⟨m,H',e,r,hi,ks,F,B,_⟩:=FP (qh A p') K e4 (kj.trans e1) e2 (zD _);obtain⟨G,E⟩:=B e3;refine⟨m+1,H',e,.next s.ok e1 r,hi,s.ks.trans ks,⟨F.1,λj u=>(F.2 j u).trans (by unfold fK;rw[UX p u])⟩,λd=>⟨G,E.trans (J d).2⟩,λx d=>⟨λC=>?_,λb L=>⟨G,E.trans ((a x d).2 b L).2⟩⟩⟩;have:=((a x d).1 C).1;rw[e1]at this;cases this
  ·have w:ya H (Ke H t p) t:=by
    obtain⟨A,z,y⟩:=Gh (p:=p) ht;exact⟨by unfold fK;rw[z];exact y.trans e1,λj u=>by unfold fK;rw[UX p u]⟩
   have r:=iG.done (H:=H) (t:=t) s.ok e1;rw[Q]at r;exact⟨1,_,_,r,s.hi,s.ks,w,J,λx d=>⟨λC=>((a x d).1 C).2,(a x d).2⟩⟩
termination_by n=>n
structure fR (H H':Hw):Prop where
 hi:∃held s0,HI H' held s0
 ks:KS H.sp H'.sp
 kp:Q2 H' H
 ph:∀j,fK H' j=fK H j
theorem fR.refl (h:HI H held s0):fR H H:=⟨⟨held,s0,h⟩,KS.refl _,Q2.refl _,λ_=>rfl⟩
theorem fR.trans {H1 H2 H3:Hw}(a:fR H1 H2)(b:fR H2 H3):fR H1 H3:=⟨b.hi,a.ks.trans b.ks,a.kp.trans b.kp,λj=>(b.ph j).trans (a.ph j)⟩
theorem La {tb:List cA}{kind size align addr:Int}{p:Ph}(h:iR tb kind size align addr=some p)(hx:iL addr)(hh:g.bQ=[]):iw tb.length {g with ph:=some p}:=by
 unfold iR at h;split at h
 ·split at h
  ·split at h
   ·split at h
    ·rename_i k hk;cases h;exact⟨hh,IY hk⟩
    ·cases h;exact⟨hh,O,O⟩
   ·cases h
  ·cases h
 ·split at h
  ·cases h;exact⟨hh,hx⟩
  ·split at h
   ·cases h;exact hh
   ·cases h
theorem HI.eW (h:HI H held s0)(hg:H.bR[t]?=some g)(hn:g.ph=none){p:Ph}(hp:iw H.tb.length {g with ph:=some p})(hq:∀s a,p≠.dH s a):HI (eW H t (some p)) held s0:=by
 have b:=h.th g (h.mem hg);have e:Go.Ar.eW H t (some p) = {H with bR:=H.bR.set t {g with ph:=some p}}:=ZY hg _;rw[e];refine h.kF hg (live':=H.live) (λi x=>?_) h.lk (λj d=>.inl d) (λs a hp=>by cases hp;exact(hq s a rfl).elim) ⟨b.ll,b.lo,b.hb,b.hl,hp⟩;unfold gS;rw[hn];have:jJ (some p) i x=0:=by
  cases p<;>first|rfl|exact(hq _ _ rfl).elim
 simp only[this];simp only[jJ]
theorem Fz (h:HI H held s0)(hg:H.bR[t]?=some g)(hn:g.ph=none):g.bQ=[]:=by
 have:=(h.th g (h.mem hg)).ph;unfold iw at this;rw[hn]at this;exact this
theorem G6 (H:Hw)(thread kind size align addr:Int):(∃e,Vd H thread kind size align addr=.inl e/\e≠0)\/∃(t:Nat) (p:Ph) (g:Th),thread=(t:Int)/\H.bR[t]?=some g/\g.ph=none/\iR H.tb kind size align addr=some p/\Vd H thread kind size align addr=.inr (t,p):=by
 unfold Vd;split
 ·split
  ·split
   ·split
    ·rename_i hth _ g hg hn _ p hp;exact .inr ⟨thread.toNat,p,g,O,hg,hn,hp,rfl⟩
    ·exact .inl ⟨1,rfl,by decide⟩
   ·exact .inl ⟨5,rfl,by decide⟩
  ·exact .inl ⟨1,rfl,by decide⟩
 ·exact .inl ⟨1,rfl,by decide⟩
theorem N4 (hg:H.bR[t]?=some g)(p:Option Ph)(hj:j≠t):fK (eW H t p) j=fK H j:=by
 unfold fK eW;rw[Vp _ hj]
theorem Jm (hg:H.bR[t]?=some g)(hn:g.ph=none){p:Ph}(ps:ya (eW H t (some p)) H' t):∀j,fK H' j=fK H j:=λj=>by
 by_cases hj:j=t
 ·subst hj;rw[ps.1];unfold fK;rw[hg];exact hn.symm
 ·rw[ps.2 j hj,N4 hg _ hj]
def rj (H:Hw)(size align:Int)(H':Hw)(a e:Int):Prop:=(e≠0/\a=0/\H'.live=H.live) ∨
 (e=0/\bU H.live a=none/\(1<=size/\size<=16384/\Hl size align=true)/\∃cl,H'.live=dA H.live a (a,(oZ H.tb size align).1,cl,Yi H'.bZ a)/\((∃k:Nat,cl=k/\hO H.tb size align=some k)\/cl = -1/\hO H.tb size align=none))
theorem Mn (h:HI H held s0)(thread size align:Int):∃H' a e,KO H thread 0 size align 0 H' a e/\fR H H'/\rj H size align H' a e:=by
 rcases G6 H thread 0 size align 0 with⟨e,hs,hne⟩|⟨t,p,g,rfl,hg,hn,hq,hs⟩
 ·exact⟨H,0,e,.inl ⟨hs,hne,rfl,rfl⟩,fR.refl h,.inl ⟨hne,rfl,rfl⟩⟩
 ·have B:=Fz h hg hn;have i:=La (g:=g) hq (by unfold iL;decide) B;unfold iR at hq;rw[zC rfl]at hq;split at hq
  ·rename_i hsz;split at hq
   ·rename_i hok;have b:oZ H.tb size align=(match hO H.tb size align with
     | some k=>((H.tb.getD k ⟨8,1,1⟩).size:Int)
     | none=>yW size,0):=by
     unfold oZ;rw[zC ⟨hsz.2,hok⟩]
     first|done | (cases hO H.tb size align<;>rfl)
    obtain⟨cl,d,j⟩:∃cl,Rq H.tb {g with ph:=some p} p cl (oZ H.tb size align).1/\((∃k:Nat,cl=k/\hO H.tb size align=some k)\/cl = -1/\hO H.tb size align=none):=by
     cases hcv:hO H.tb size align with
     | some k=>
      rw[hcv]at hq b;cases hq;have y:=IY hcv;have z:H.tb[k]?=some H.tb[k]:=cW y;refine⟨k,⟨rfl,H.tb[k],z,?_⟩,.inl ⟨k,rfl,rfl⟩⟩;rw[b];simp only;rw[zQ,z];rfl
     | none=>
      rw[hcv]at hq b;cases hq;refine⟨-1,⟨rfl,?_⟩,.inr ⟨rfl,rfl⟩⟩;rw[b];simp only;unfold yW;omega
    have x:∀s a,p≠.dH s a:=λs a e=>by subst e;exact d.elim
    have D:=h.eW hg hn i x;have u:(Go.Ar.eW H t (some p)).bR[t]?=some {g with ph:=some p}:=by
     have A:=(cX.1 hg).1;have e:Go.Ar.eW H t (some p) = {H with bR:=H.bR.set t {g with ph:=some p}}:=ZY hg _;rw[e];simp[A]
    obtain⟨m,H',a,e,r,hi,ks,C,w⟩:=Lo _ D u rfl d (zD _);refine⟨H',a,e,.inr ⟨t,p,m,hs,r⟩,⟨hi,ks,(Vz _ _ _).trans (Eh r),Jm hg hn C⟩,?_⟩;rcases w with⟨r1,r2,r3⟩|⟨r1,r2,r3⟩
    ·exact .inl ⟨r1,r2,r3⟩
    ·exact .inr ⟨r1,r2,⟨hsz.1,hsz.2,hok⟩,cl,r3,j⟩
   ·cases hq
  ·cases hq
def nR (H:Hw)(thread addr:Int)(H':Hw)(e:Int):Prop:=
 (e≠0/\H'=H/\Vd H thread 1 0 0 addr=.inl e)\/((∃p,Vd H thread 1 0 0 addr=.inr p)/\bU H.live addr=none/\e≠0/\H'.live=H.live)\/((∃p,Vd H thread 1 0 0 addr=.inr p)/\∃b,bU H.live addr=some b/\e=0/\H'.live=cO H.live addr)
theorem M6 (h:HI H held s0)(hg:H.bR[t]?=some g)(hn:g.ph=none){p:Ph}(hp:iw H.tb.length {g with ph:=some p})(hf:lJ p)(hq:∀s a,p≠.dH s a):∃m H' e,iG m (eW H t (some p)) t p H' 0 e/\fR H H'/\((∀x,p≠.find x)->e=0/\H'.live=H.live) ∧
 (∀x,p=.find x->(bU H.live x=none->e≠0/\H'.live=H.live)/\(∀b,bU H.live x=some b->e=0/\H'.live=cO H.live x)):=by
 have y:=h.eW hg hn hp hq;have d:(Go.Ar.eW H t (some p)).bR[t]?=some {g with ph:=some p}:=by
  have i:=(cX.1 hg).1;have e:Go.Ar.eW H t (some p) = {H with bR:=H.bR.set t {g with ph:=some p}}:=ZY hg _;rw[e];simp[i]
 obtain⟨m,H',e,r,hi,ks,u,w,j⟩:=FP _ y d rfl hf (zD _);exact⟨m,H',e,r,⟨hi,ks,(Vz _ _ _).trans (Eh r),Jm hg hn u⟩,w,j⟩
theorem ς (h:HI H held s0)(thread addr:Int)(hx:iL addr):∃H' e,KO H thread 1 0 0 addr H' 0 e/\fR H H'/\nR H thread addr H' e:=by
 rcases G6 H thread 1 0 0 addr with⟨e,hs,hne⟩|⟨t,p,g,rfl,hg,hn,hq,hs⟩
 ·exact⟨H,e,.inl ⟨hs,hne,rfl,rfl⟩,fR.refl h,.inl ⟨hne,rfl,hs⟩⟩
 ·have d:=La (g:=g) hq hx (Fz h hg hn);have j:p=.find addr:=by unfold iR at hq;simp at hq;exact hq.symm
  subst j;obtain⟨m,H',e,r,op,_,i⟩:=M6 h hg hn d trivial (λs a e=>by cases e);refine⟨H',e,.inr ⟨t,_,m,hs,r⟩,op,?_⟩;cases hm:bU H.live addr with
  | none=>exact .inr (.inl ⟨⟨_,hs⟩,hm,(i addr rfl).1 hm⟩)
  | some b=>exact .inr (.inr ⟨⟨_,hs⟩,b,hm,(i addr rfl).2 b hm⟩)
end Go.Ar
namespace Go.Ar
open Go Go.Vc Go.Proofs
variable {U u w w':Hp}{F B P Q:Rg}{L:dE}{H H':Hw}{t n k:Nat}{A:AR}{Y:Lay}
theorem Fr.refl (A:AR):Fr A A:=⟨rfl,rfl,rfl⟩
theorem Fr.trans {A B C:AR}(h:Fr B A)(k:Fr C B):Fr C A:=⟨k.1.trans h.1,k.2.1.trans h.2.1,k.2.2.trans h.2.2⟩
end Go.Ar
namespace Go.Ar
variable {A:AR}
def r8 (tb:List cA)(n room m:Nat):Wd:=⟨tb,V4 n,List.replicate m (fG n room tb),[]⟩
theorem OK {n room:Nat}{tb:List cA}(h1:32<=n)(h2:n<=1024)(h3:n%16=0)(h6:tb.length<=40)(h7:∀c∈tb,c.ok):GA (fG n room tb)/\∀p,(fG n room tb).f p=0:=by
 have g:∀p,(fG n room tb).f p=0:=λp=>by
  show(List.replicate n 0).getD p 0=0;rw[zQ,mP];split<;>rfl
 have a:∀{k:Nat} {i:List cH},(List.replicate tb.length ([]:List cH))[k]?=some i->i=[]:=λh=>by
  rw[mP]at h;split at h<;>simp at h;exact h
 have b:∀{k:Nat} {t:gO},(List.replicate tb.length (⟨0,[]⟩:gO))[k]?=some t->t.bs=[]:=λh=>by
  rw[mP]at h;split at h<;>simp at h;rw[←h]
 refine⟨⟨⟨by simp[fG],h1,h2,h3,λp=>by rw[g];omega,λp=>by rw[g];simp[fG],λp=>by rw[g];simp[fG,Go.Bu.iB],λp=>by rw[g,g]⟩,h6,by simp[fG],by simp[fG],λk c i d=>?_,λk c i d s m=>?_,λk c i d p=>?_,λp=>?_,λp=>.inr (Nat.zero_le _),by simp[fG],by simp[fG],λk t j=>?_,λk c i t d j=>?_,λk c t d j=>?_⟩,g⟩
 ·have e:=a d.2;subst e;exact⟨h7 c (zG d.1),by simp,by simp⟩
 ·have e:=a d.2;subst e;simp at m
 ·have e:=a d.2;subst e;constructor
  ·intro h;cases h
  ·rintro⟨s,m,_⟩;simp at m
 ·constructor
  ·intro h;cases h
  ·rintro⟨r,hr,_⟩;simp[fG]at hr
 ·have:=b j;rw[this];exact uU
 ·have:=b j;rw[this];simp
 ·have:=b j;rw[this];simp
theorem MI {tb:List cA}{n room m:Nat}(h1:32<=n)(h2:n<=1024)(h3:n%16=0)(h6:tb.length<=40)(h7:∀c∈tb,c.ok):WI (r8 tb n room m):=by
 obtain⟨w,d⟩:=OK (room:=room) h1 h2 h3 h6 h7;have get:∀{k:Nat} {A:AR},(r8 tb n room m).bZ[k]?=some A->A=fG n room tb:=λ{k A} h=>by
  have h:(List.replicate m (fG n room tb))[k]?=some A:=h;rw[mP]at h;split at h<;>simp at h;exact h.symm
 have b:∀p,gf (V4 n).st p=0:=λp=>by
  show(List.replicate n 0).getD p 0=0;rw[zQ,mP];split<;>rfl
 refine⟨λk A h=>by rw[get h];exact w,λk A h=>?_,λk A h=>by rw[get h];rfl,λk A h p a=>by rw[get h];exact d p,λp a=>(a (b p)).elim,λp k l A B E G h1 h2=>?_,uU,λp a=>by simp[r8]at a,λk A h j y u=>?_,λk A h r z=>?_⟩
 ·rw[get h];exact⟨by simp[r8,V4,fG],λp a=>(a (d p)).elim,λp a=>by rw[d p]at a;omega,λp=>by show gf (V4 n).st p<=2;rw[b];omega⟩
 ·rw[get E]at h1;exact(h1 (d p)).elim
 ·rw[get h]at u;obtain⟨c,D,x,C⟩:=u;have g:D=[]:=by
   have h2:=x.2;simp only[fG]at h2;rw[mP]at h2;split at h2<;>simp at h2;exact h2
  subst g;obtain⟨H,s,i,F,_⟩:=(Uh (w.cG _ _ _ x)).1 C;simp at F
 ·rw[get h]at z;simp[fG]at z
end Go.Ar
namespace Go.Ar
open Go.Vc (bU dA cO)
variable {H H':Hw}{held:List Pc}{s0:Sp}{t k j:Nat}{g:Th}{A:AR}{c:cA}
theorem PS {tb:List cA}{cf:Cf}(h1:32<=cf.aG)(h2:cf.aG<=1024)(h3:cf.aG%16=0)(h4:1<=cf.ig)(h6:tb.length<=40)(h7:∀c∈tb,c.ok):HI (Uu tb cf) [] (V4 cf.aG):=by
 have u:=MI (tb:=tb) (n:=cf.aG) (room:=cf.room) (m:=cf.ig) h1 h2 h3 h6 h7;have d:∀g∈(Uu tb cf).bR,g=⟨List.replicate tb.length iq,[],none⟩:=λg i=>(yX.1 i).2;have r:∀k,(List.replicate tb.length iq).getD k iq=iq:=λk=>by
  rw[zQ,mP];split<;>rfl
 refine⟨u,jE.refl _,λk x=>?_,uU,λe y=>by simp[Uu]at y,λg i s a j=>?_,λg i=>?_,h7,?_,?_⟩
 ·have z:∀(n:Nat) (f:Th->Nat) (g:Th),f g=0->((List.replicate n g).map f).sum=0:=λn f g h=>by
   rw[wg,h]
   induction n with
   | zero=>rfl
   | succ n ih=>rw[r9,oC,ih]
  have B:gS ⟨List.replicate tb.length iq,[],none⟩ k x=0:=by
   unfold gS lV;split
   ·simp only[r];rfl
   ·rfl
  have:qV (Uu tb cf) k x=0:=by
   unfold qV;show mo [] k x+((List.replicate cf.threads (⟨List.replicate tb.length iq,[],none⟩:Th)).map λg=>gS g k x).sum=0;rw[z _ _ _ B];rfl
  rw[this,KW];rintro⟨p,j,_⟩;simp at j
 ·rw[d g i]at j;cases j
 ·rw[d g i];refine⟨by simp[Uu],λl A=>?_,λb w=>by simp at w,by simp,by unfold iw;rfl⟩;rw[(yX.1 A).2];exact⟨fP.nil,by simp[iq]⟩
 ·show 1<=(List.replicate cf.ig (fG cf.aG cf.room tb)).length;simpa using h4
 ·show(List.replicate cf.aG 0).length=cf.aG;simp
def KL (H H':Hw):Prop:=∀e∈H.live,∀w:Nat,e.1<=((8*w:Nat):Int)->((8*w:Nat):Int)<e.1+e.2.2.1->H'.sp.wd w=H.sp.wd w
theorem HI.A5 (h:HI H held s0):WI ⟨H.tb,s0,H.bZ,held⟩:=h.wi
theorem HI.mapped (h:HI H held s0){p:Pc}(hp:p∈held){x:Nat}(h1:p.addr<=x)(h2:x<p.addr+p.size):gf H.sp.st (x/256)≠0:=by
 obtain⟨A,a,_⟩:=h.wi.hf p hp;have e1:=h.wi.pJ hp a h1 h2;have:=(h.wi.ow _ A a).own (x/256) O;intro hz;exact this ((h.m6.z _).1 hz)
theorem HI.kl (h:HI H held s0)(k:KS H.sp H'.sp):KL H H':=λe a w m j=>by
 obtain⟨_,p,b,_,_,g,i,_⟩:=h.lv e a;have d:=h.mapped b (x:=8*w) O O;exact(k.k _ d).2 w O
theorem KL.refl (H:Hw):KL H H:=λ_ _ _ _ _=>rfl
theorem KL.trans {H1 H2 H3:Hw}(a:KL H1 H2)(b:KL H2 H3)(hl:∀e∈H1.live,e∈H2.live):KL H1 H3:=λe i w g d=>(b e (hl e i) w g d).trans (a e i w g d)
structure mN (H H':Hw):Prop where
 hi:∃held s0,HI H' held s0
 live:H'.live=H.live
 bR:H'.bR=H.bR
 kp:Q2 H' H
 kl:KL H H'
theorem mN.refl (h:HI H held s0):mN H H:=⟨⟨_,_,h⟩,rfl,rfl,Q2.refl _,KL.refl _⟩
theorem mN.trans {H1 H2 H3:Hw}(a:mN H1 H2)(b:mN H2 H3):mN H1 H3:=⟨b.hi,b.live.trans a.live,b.bR.trans a.bR,a.kp.trans b.kp,a.kl.trans b.kl λe d=>by rw[a.live];exact d⟩
theorem HI.n (h:HI H held s0)(hk:H.bZ[k]?=some A):A.n=H.cf.aG:=by
 have:=(h.wi.ow k A hk).l;have a:=h.m6.l;have b:=h.sl;simp only at this;omega
theorem WI.wd {W:Wd}(h:WI W)(f:Nat->Int):WI {W with sp:={W.sp with wd:=f}}:=
 ⟨h.ga,λk A hk=>⟨(h.ow k A hk).l,(h.ow k A hk).own,(h.ow k A hk).cl,(h.ow k A hk).le⟩,h.tb,h.low,h.own,h.one,h.hk,h.hf,h.ht,h.hr⟩
theorem Jh {sp:Sp}{x:Int}(h:eO sp x=0):0<=x/\x%8=0/\gf sp.st (x.toNat/256)≠0:=by
 unfold eO at h;split at h
 ·cases h
 ·split at h
  ·cases h
  ·exact⟨O,O,by assumption⟩
theorem CQ (sp:Sp)(x v:Int):(ZL sp x v).st.length=sp.st.length/\(∀p,gf (ZL sp x v).st p=0↔gf sp.st p=0)/\∀w,(ZL sp x v).wd w=if eO sp x=0/\w=x.toNat/8 then v else sp.wd w:=by
 unfold ZL;split
 ·rename_i h0;have a:=Jh h0;refine⟨by simp[nA],λp=>?_,λw=>?_⟩
  ·show gf (sp.st.set (x.toNat/8/32) 2) p=0↔_;have b:x.toNat/8/32=x.toNat/256:=by omega
   rw[b];unfold gf at a ⊢;rw[zQ]at a ⊢;rw[zQ,nI];split
   ·rename_i he;split
    ·rw[←he];simp only[qz];exact⟨λh=>O,λh=>(a.2.2 h).elim⟩
    ·rename_i hl;rw[zX O]at a;exact(a.2.2 rfl).elim
   ·exact Iff.rfl
  ·show(if w=x.toNat/8 then v else sp.wd w)=_
   by_cases hw:w=x.toNat/8
   ·rw[zC hw,zC ⟨h0,hw⟩]
   ·rw[zB hw,zB λh=>hw h.2]
 ·exact⟨rfl,λ_=>Iff.rfl,λw=>by rw[zB λh=>by have:=h.1;contradiction]⟩
theorem HI.write (h:HI H held s0)(x v:Int):HI {H with sp:=ZL H.sp x v} held {s0 with wd:=(ZL H.sp x v).wd}:=by
 obtain⟨a,b,_⟩:=CQ H.sp x v;exact⟨h.wi.wd _,⟨a.trans h.m6.l,λp=>(b p).trans (h.m6.z p),rfl⟩,h.cn,h.lk,h.lv,h.gv,h.th,h.ok,h.a1,a.trans h.sl⟩
end Go.Ar
namespace Go.Ar
open Go Go.Vc Go.Proofs
variable {U u w w':Hp}{F B P Q:Rg}{L:dE}{H H':Hw}{t n:Nat}{g:Th}
end Go.Ar
namespace Go.Proofs
open Go.Vc
set_option maxRecDepth 100000
def Xi.h:Hn:=.q .o2 (.q (.q (.cU (.seq [.op,.op,.op,.cY false 2 [.op,.op]])) .aJ) (.q .o1 (.q .o1 (.q (.k (.loop [(4,.one .s),(5,.I)] (.q (.q .o2 (.c .l .l)) (.k (.q .o7 .o6))))) (.q .o6 (.q .o1 (.q (.q .o1 (.k (.loop [(6,.one .s),(7,.I)] (.q (.q .o4 (.c .l .l)) (.q (.k (.q (.cU (.gK true [] [(70,.one .b)] (.tk [0,1,2,3,4,5] (.split 43 (.tk [6,7,8,9,10,11,12,13,14,15,16,17,18,19,20,21,22,23,24,25,26,27,28,29,30,31,32] (.done)) (.tk [6,7,8,9,10,11,12,13,14,15,16,17,18,19] (.split 57 (.tk [20,21,22,23,24,25,26,27,28,29,30,31,32] (.done)) (.tk [20,21,22,23,25,26,27,28,29] (.all [(24,.all [(30,.take 31 (.take 32 (.done)))])])))))))) (.c .o8 .l))) .o3))))) (.q .o3 .l))))))))
def Xi.v (a:Int)(b:Hp)(c:Sl->Int->Hp->Prop):Prop:=bX (λd e=>If d (c ⟨none,0,0⟩ 1 e) (XS [.s,bO] (λf=>f ⟨none,0,0⟩ 8 e) λg (h:Sl) (i:Int) j=>If (i<512) (XB.c i a j λk l m n=>aV #[.I k,.I l,.I m] 149 n λo p=>App h 3 24 149 [.I 0,.I 0,.I 0] ⟨some o,1,1⟩ p λq r=>X9.c i a r λs t=>bM (i+s) λu=>g q u t) (XB.c 512 a j λv w x y=>aV #[.I v,.I w,.I x] 149 y λz aa=>App h 3 24 149 [.I 0,.I 0,.I 0] ⟨some z,1,1⟩ aa λab ac=>XS [.s,bO] (λad=>ad ⟨none,0,0⟩ 0 ac) λae (af:Sl) (ag:Int) ah=>If (ag<((ab.len:Nat):Int)) (Jn [.b] (λ(ai:Bool) aj=>If ai (Ix ab.a ab.len ag 3 λak=>aQ ak 0 aj λal=>aQ ak 1 aj λam=>aQ ak 2 aj λan=>aV #[.I al,.I am,.I an] 149 aj λao ap=>App af 3 24 149 [.I 0,.I 0,.I 0] ⟨some ao,1,1⟩ ap λaq ar=>bM (ag+1) λau=>ae aq au ar) (bM (ag+1) λav=>ae af av aj)) λaw=>dS ah λax=>bM (((ab.len:Nat):Int)-1) λay=>If (ag==ay) (aw true ah) (Ix ab.a ab.len ag 3 λaz=>aS ax az 1 λa0=>bM (ag+1) λa1=>Ix ab.a ab.len a1 3 λa2=>aS ax a2 1 λa3=>If (a0 != a3) (aw true ah) (Ix ab.a ab.len ag 3 λa4=>aS ax a4 0 λa5=>aS ax a4 1 λa6=>aS ax a4 2 λa7=>bM (ag+1) λa8=>Ix ab.a ab.len a8 3 λa9=>aS ax a9 0 λba=>aS ax a9 1 λbb=>aS ax a9 2 λbc=>Xc.c a5 a6 a7 ah λbd be=>
 And (ax be) <| Xc.c ba bb bc be λbf bg=>And (ax bg) <| aw (bd != bf) bg))) (c af 0 ah)))) λbh=>If (a<2) (bh true b) (bh (decide (a>16)) b)
theorem Xi.o {a b c}(d:Xi.v a b c):Xi.c a b c:=Wa Tryz.func96 (x:=Xi.h) (R0 d)
def XB.h:Hn:=.q .o1 (.q .o8 (.q (.q .o1 (.k (.loop [(6,.I)] (.q (.q .o2 (.c .l .l)) (.q (.k (.q (.cU (.seq [.op,.op,.op,.op,.op,.cY true 9 (RI.ops 9)])) (.c .o3 .l))) .o3))))) .aL))
def XB.v (a b:Int)(c:Hp)(d:Int->Int->Int->Hp->Prop):Prop:=aV #[.I 0,.I 0,.I 0] 149 c λe f=>Nz a<|bM ((512:Int).tdiv a) λg=>aV #[.I 0,.I 0,.I 0] 149 f λh i=>aR h 0 (.I a) i λj=>aR h 1 (.I 4) j λk=>aR h 2 (.I (if 32<(if 2>g then 2 else g)then 32 else(if 2>g then 2 else g))) k λl=>XS [bO] (λm=>m 4 l) λn (o:Int) p=>If (o≥1) (bM (o*256) λq=>bX (λr s=>If r (aR h 1 (.I o) s λt=>bM (o-1) λu=>n u t) (bM (o-1) λv=>n v s)) λw=>If (q≥a) (bM (o*256) λx=>Nz a <| bM (b*(x.tmod a)) λy=>bM (o*256) λz=>w (decide (y<=z)) p) (w false p)) (aQ h 0 p λaa=>aQ h 1 p λab=>aQ h 2 p λac=>aR e 0 (.I aa) p λad=>aR e 1 (.I ab) ad λae=>aR e 2 (.I ac) ae λaf=>aQ e 0 af λag=>aQ e 1 af λah=>aQ e 2 af λai=>d ag ah ai af)
theorem XB.o {a b c d}(e:XB.v a b c d):XB.c a b c d:=Wa Tryz.func148 (x:=XB.h) (R0 e)
def X9.h:Hn:=.q .o1 (.q .o1 (.q (.k (.loop [(5,.I)] (.q (.q .o6 (.c .l .l)) (.k .o3)))) .aL))
def X9.v (a b:Int)(c:Hp)(d:aN):Prop:=XS [bO] (λe=>e 8 c) λf (g:Int) h=>bM (2*g) λi=>Nz b<|bM (a.tdiv b) λj=>If (i<=j) (bM (2*g) λk=>f k h) (d g h)
theorem X9.o {a b c d}(e:X9.v a b c d):X9.c a b c d:=Wa Tryz.func149 (x:=X9.h) (R0 e)
def Xc.h:Hn:=.q .o2 (.q .o1 (.q (.k (.loop [(3,.I)] (.q (.q .o9 (.c .l .l)) (.k .o3)))) .aL))
def Xc.v (a b c:Int)(d:Hp)(e:aN):Prop:=aV #[.I a,.I b,.I c] 149 d λf g=>XS [bO] (λh=>h 0 g) λi (j:Int) k=>bM (j+1) λl=>aQ f 0 k λm=>bM (l*m) λn=>aQ f 1 k λo=>bM (o*256) λp=>If (n<=p) (bM (j+1) λq=>i q k) (e j k)
theorem Xc.o {a b c d e}(f:Xc.v a b c d e):Xc.c a b c d e:=Wa Tryz.func150 (x:=Xc.h) (R0 f)
end Go.Proofs
namespace Go.Ar
open Go Go.Vc Go.Proofs
variable {U w:Hp}
abbrev T3:=Int×Int×Int
def v3 (x:T3):List Value:=[.int .i64 x.1,.int .i64 x.2.1,.int .i64 x.2.2]
def lK (l:List T3):List Value:=l.flatMap v3
theorem CZ (l:List T3):(lK l).length=l.length*3:=by
 induction l with
 | nil=>rfl
 | cons x l ih=>simp only[lK,pt,zK,v3,zS,lg]at *;omega
theorem LQ (l:List T3)(x:T3):lK (l++[x])=lK l++v3 x:=by simp[lK]
theorem AV:∀{l:List T3} {i:Nat} {x:T3},l[i]?=some x->∀{d:Nat},d<3->(lK l)[i*3+d]?=(v3 x)[d]?
 | [],_,_,h,_,_=>by simp at h
 | y::l,0,x,h,d,hd=>by
  simp at h;subst h;have e:lK (y::l)=v3 y++lK l:=rfl;rw[e,zd (by simp[v3];omega)];congr 1;omega
 | y::l,i+1,x,h,d,hd=>by
  have e:lK (y::l)=v3 y++lK l:=rfl;have a:(v3 y).length=3:=rfl;rw[e,zp O,a,show(i+1)*3+d-3=i*3+d by omega];exact AV (by simpa using h) hd
theorem EC {Q:Rg}{s:Sl}{l:List T3}(h:Go.Vc.Own Q U s 3 (lK l)):ik U s l:=by
 have p:=h.1;rw[CZ]at p;refine⟨O,λi x y z g=>?_⟩;obtain⟨b,d,m⟩:=h.cell (j:=i*3+0) (v:=.int .i64 x) ((AV g O).trans rfl);obtain⟨r,a,w⟩:=h.cell (j:=i*3+1) (v:=.int .i64 y) ((AV g O).trans rfl);rw[d]at a;cases a;obtain⟨r,a,u⟩:=h.cell (j:=i*3+2) (v:=.int .i64 z) ((AV g O).trans rfl);rw[d]at a;cases a;refine⟨b,0,d,KZ m,?_,?_,?_⟩
 ·rw[show 0+i*3=i*3+0 by omega];exact m
 ·rw[show 0+i*3+1=i*3+1 by omega];exact w
 ·rw[show 0+i*3+2=i*3+2 by omega];exact u
def uR (s w:Int)(n:Nat):Int:=([4,3,2,1].take n).foldl (λ(r p:Int)=>if s<=p*256/\w*((p*256)%s)<=p*256 then p else r) 4
def yP (s:Int):Int:=min 32 (max 2 (512/s))
def lb (s w:Int):T3:=(s,uR s w 4,yP s)
def xg:Nat->Int->Int->Int
 | 0,d,_=>d
 | n+1,d,q=>if 2*d<=q then xg n (2*d) q else d
def yk (s w:Int):Int:=xg 8 8 (s/w)
def mZ (x:T3):Int:=x.2.1*256/x.1
theorem Ti (s w:Int)(n:Nat):1<=uR s w n/\uR s w n<=4:=by
 have key:∀(l:List Int) (r:Int),(∀p∈l,1<=p/\p<=4)->1<=r/\r<=4->1<=l.foldl (λ(r p:Int)=>if s<=p*256/\w*((p*256)%s)<=p*256 then p else r) r/\l.foldl (λ(r p:Int)=>if s<=p*256/\w*((p*256)%s)<=p*256 then p else r) r<=4:=by
  intro l
  induction l with
  | nil=>intro r _ h;exact h
  | cons p l ih=>
   intro r hl hr;rw[rD];refine ih _ (λq b=>hl q (mj _ b)) ?_;split
   ·exact hl p mJ
   ·exact hr
 refine key _ _ (λp a=>?_) O;have:=vz a;simp at this;omega
theorem F3 (s w:Int)(h1:8<=s)(h2:s<=512)(hw1:2<=w)(hw2:w<=16){R:Int->Int->Int->Hp->Prop}(hR:∀σ',aF U σ'->R (lb s w).1 (lb s w).2.1 (lb s w).2.2 σ'):XB.c s w U R:=by
 refine XB.o ?_;unfold XB.v;have Q:1<=512/s/\512/s<=64:=⟨by rw[Int.le_ediv_iff_mul_le O];omega,Int.ediv_le_of_le_mul O O⟩;refine nw (cs:=[.int .i64 0,.int .i64 0,.int .i64 0]) λv hz e W=>nz O (ar (by rw[Yj O];omega) (by rw[Yj O];omega) ?_);rw[Yj O];refine nw (cs:=[.int .i64 0,.int .i64 0,.int .i64 0]) λv1 M e1 B=>B.s1 aA λv2 o2 C=>C.s1 aA λX o3 p=>p.s1 aA λv4 o4 b4=>?_;have b:U.size≠v.size:=by omega
 have A:=WF o4 (WF o3 (WF o2 (e1.bV W id) b) b) b;have Z:aF U v4:=((((e.trans e1).only o2 (.inr O)).only o3 (.inr O)).only o4 (.inr O));have j:(if 32<(if 2>512/s then 2 else 512/s)then 32 else(if 2>512/s then 2 else 512/s))=yP s:=by unfold yP;omega
 rw[j]at b4;refine Qj (a:=bO) (λ(z:Int) u=>∃n:Nat,n<=4/\z=4-(n:Int)/\aF U u/\bY u U.size [.int .i64 0,.int .i64 0,.int .i64 0]/\bY u v.size [.int .i64 s,.int .i64 (uR s w n),.int .i64 (yP s)]) (λz _=>z.toNat) ⟨0,O,rfl,Z,A,b4⟩ ?_;rintro(z:Int) u ⟨n,hn,rfl,eu,hu,bu⟩;refine cN (λaa=>?_) λV=>?_
 ·have H:n<4:=by omega
  have d:uR s w (n+1)=if s<=(4-(n:Int))*256/\w*(((4-(n:Int))*256)%s)<=(4-(n:Int))*256 then 4-(n:Int)else uR s w n:=by
   have K:([4,3,2,1]:List Int)[n]?=some (4-(n:Int)):=by
    rcases(show n=0\/n=1\/n=2\/n=3 by omega)with rfl|rfl|rfl|rfl<;>rfl
   unfold uR;rw[kx,K,vS];rfl
  refine ar O O ?_;refine KP (λr F=>F=u/\r=decide (s<=(4-(n:Int))*256/\w*(((4-(n:Int))*256)%s)<=(4-(n:Int))*256)) (λr F ⟨y,x⟩=>?_) λJ G=>?_
  ·subst y;by_cases hc:s<=(4-(n:Int))*256/\w*(((4-(n:Int))*256)%s)<=(4-(n:Int))*256
   ·rw[zI hc]at x;rw[zC hc]at d;refine cF x (bu.s1 aA λP o1 D=>ar O O ⟨⟨n+1,O,O,eu.only o1 (.inr O),WF o1 hu b,by rw[d];exact D⟩,O⟩)
   ·rw[zL hc]at x;rw[zB hc]at d;exact cD x (ar O O ⟨⟨n+1,O,O,eu,hu,by rw[d];exact bu⟩,O⟩)
  ·have g:=Int.emod_nonneg ((4-(n:Int))*256) (show s≠0 by omega);have N:=Int.emod_lt_of_pos ((4-(n:Int))*256) (show 0<s by omega);have S:w*(((4-(n:Int))*256)%s)<=16*512:=Int.mul_le_mul hw2 O g O;have L:0<=w*(((4-(n:Int))*256)%s):=Int.mul_nonneg O g;refine cN (λh1=>ar O O (nz O ?_)) λh1=>G _ _ ⟨rfl,(zL λm=>h1 m.1).symm⟩;rw[Kh O];refine ar O O (ar O O (G _ _ ⟨rfl,?_⟩));rw[decide_eq_decide];exact⟨λm=>⟨h1,m⟩,λm=>m.2⟩
 ·have E:n=4:=by omega
  subst E;refine bu.rI rfl (bu.rI rfl (bu.rI rfl (hu.s1 aA λP o1 D=>D.s1 aA λu2 o2 C=>C.s1 aA λY o3 p=>p.rI rfl (p.rI rfl (p.rI rfl (hR Y ?_))))));exact((eu.only o1 (.inr O)).only o2 (.inr O)).only o3 (.inr O)
theorem Oi (s w:Int)(h1:8<=s)(h2:s<=512)(hw1:2<=w){R:aN}(hR:8<=yk s w->yk s w<=256->R (yk s w) U):X9.c s w U R:=by
 refine X9.o ?_;unfold X9.v;have m:0<=s/w/\s/w<=256:=⟨Int.ediv_nonneg O O,by
  have:s/w<=s/2:=by
   apply Int.le_ediv_of_mul_le O;have:=Int.ediv_mul_le s (show w≠0 by omega);have j:s/w*2<=s/w*w:=Int.mul_le_mul_of_nonneg_left hw1 (Int.ediv_nonneg O O);omega
  omega⟩
 refine Qj (a:=bO) (λ(d:Int) u=>u=U/\∃n:Nat,xg n d (s/w)=yk s w/\8<=d/\d<=256/\512<=d*2^n) (λd _=>1000-d.toNat) ⟨rfl,8,rfl,O,O,by decide⟩ ?_;rintro(d:Int) u ⟨rfl,n,hst,hd1,hd2,hdn⟩;refine ar O O (nz O (ar (by rw[Yj O];omega) (by rw[Yj O];omega) ?_));rw[Yj O];cases n with
 | zero=>simp at hdn;omega
 | succ n=>
  refine cN (λb=>ar O O ⟨⟨rfl,n,?_,O,O,?_⟩,O⟩) λg=>?_
  ·rw[xg,zC b]at hst;exact hst
  ·rw[Int.pow_succ]at hdn;have:2*d*2^n=d*(2^n*2):=by rw[Int.mul_comm 2 d,Int.mul_assoc,Int.mul_comm 2 (2^n)]
   omega
  ·rw[xg,zB g]at hst;rw[←hst]at hR;exact hR hd1 hd2
theorem IG (x:T3)(h1:8<=x.1)(h2:x.1<=512)(h3:1<=x.2.1)(h4:x.2.1<=4){R:aN}(hR:∀σ',aF U σ'->R (mZ x) σ'):Xc.c x.1 x.2.1 x.2.2 U R:=by
 refine Xc.o ?_;unfold Xc.v;refine nw (cs:=[.int .i64 x.1,.int .i64 x.2.1,.int .i64 x.2.2]) λv r e m=>?_;refine Qj (a:=bO) (λ(n:Int) u=>aF U u/\bY u U.size [.int .i64 x.1,.int .i64 x.2.1,.int .i64 x.2.2]/\0<=n/\n<=128/\n*x.1<=x.2.1*256) (λn _=>1000-n.toNat) ⟨e,m,O,O,O⟩ ?_;rintro(n:Int) u ⟨eu,bu,hn0,hn1,hn⟩;have s:(n+1)*x.1<=129*512:=Int.mul_le_mul O h2 O O;have j:0<=(n+1)*x.1:=Int.mul_nonneg O O;refine ar O O (bu.rI rfl (ar O O (bu.rI rfl (ar O O ?_))));refine cN (λb=>ar O O ⟨⟨eu,bu,O,?_,b⟩,O⟩) λg=>?_
 ·have:(n+1)*8<=(n+1)*x.1:=Int.mul_le_mul_of_nonneg_left h1 O;omega
 ·have:mZ x=n:=by
   unfold mZ;have w:n<=x.2.1*256/x.1:=(Int.le_ediv_iff_mul_le O).2 hn;have p:x.2.1*256/x.1<n+1:=(Int.ediv_lt_iff_lt_mul O).2 O;omega
  have d:=hR u eu;rw[this]at d;exact d
end Go.Ar