/- Texts joined. -/
import Derived.Test.YteihenagckcobaaGreatDoorY5
set_option linter.unusedVariables false
set_option linter.unusedSimpArgs false
namespace Go.Ar
variable {c:bZ}{ss:List cG}
structure dF (c:bZ) (ss:List cG):Prop where
 ok:c.ok
 tk:∀s∈ss,s.tk.length=c.n
 sU:ss.Pairwise λa b=>a.st+c.aF<=b.st
def Tk (c:bZ)(ss:List cG)(x:Int):Prop:=dY c ss x=some true
def tH (c:bZ)(ss:List cG)(p:Nat):Prop:=∃s∈ss,s.st<=p/\p<s.st+c.aF
theorem dF.pos (h:dF c ss):0<c.size:=by have:=h.ok;unfold bZ.ok at this;omega
theorem dF.pg (h:dF c ss):1<=c.aF:=by have:=h.ok;unfold bZ.ok at this;omega
theorem dF.qD (h:dF c ss):ss.Pairwise λa b=>a.st<b.st:=h.sU.imp λ{a b} d=>by have:=h.pg;omega
theorem dF.si (h:dF c ss){i j:Nat}{s t:cG}(hi:ss[i]?=some s)(hj:ss[j]?=some t)(hij:i<j):s.st+c.aF<=t.st:=by
 obtain⟨a,rfl⟩:=cW.1 hi;obtain⟨b,rfl⟩:=cW.1 hj;exact l3.1 h.sU i j a b hij
theorem dF.vT (h:dF c ss){i j:Nat}{s t:cG}{p:Nat}(hi:ss[i]?=some s)(hj:ss[j]?=some t)(h1:s.st<=p)(h2:p<s.st+c.aF)(h3:t.st<=p)(h4:p<t.st+c.aF):i=j:=by
 rcases oZ i j with hl|hl|hl
 ·have:=h.si hi hj hl;omega
 ·exact hl
 ·have:=h.si hj hi hl;omega
theorem Ca (hp:0<c.size){s:cG}{i:Nat}(hi:i<c.n):s.st*256<=at_ c s i/\at_ c s i+c.size<=(s.st+c.aF)*256:=by
 have b:=bZ.wH c;have a:(i+1)*c.size<=c.n*c.size:=lS _ hi;unfold at_;rw[zm]at a;omega
theorem Ht (hp:0<c.size){s:cG}{i x:Nat}(hi:i<c.n)(h1:at_ c s i<=x)(h2:x<at_ c s i+c.size):s.st<=x/256/\x/256<s.st+c.aF:=by
 have:=Ca hp (s:=s) hi;omega
theorem V0 (h:dF c ss){k l:Nat}{s t:cG}{i j x:Nat}(hk:ss[k]?=some s)(hl:ss[l]?=some t)(hi:i<c.n)(hj:j<c.n)(h1:at_ c s i<=x)(h2:x<at_ c s i+c.size)(h3:at_ c t j<=x)(h4:x<at_ c t j+c.size):k=l/\s=t/\i=j:=by
 have a:=Ht h.pos hi h1 h2;have b:=Ht h.pos hj h3 h4;have e:=h.vT hk hl a.1 a.2 b.1 b.2;subst e;rw[hk]at hl;cases hl;refine⟨rfl,rfl,?_⟩;unfold at_ at *;have d:=h.pos;rcases oZ i j with hl|hl|hl
 ·have:(i+1)*c.size<=j*c.size:=lS _ hl;rw[zm]at this;omega
 ·exact hl
 ·have:(j+1)*c.size<=i*c.size:=lS _ hl;rw[zm]at this;omega
theorem BO (h:dF c ss){s:cG}(hs:s∈ss){x:Int}{i:Nat}(hi:idx c s x=some i):i<c.n/\((s.st*256:Nat):Int)<=x/\x<(((s.st+c.aF)*256:Nat):Int)/\((at_ c s i:Nat):Int)<=x/\x<((at_ c s i+c.size:Nat):Int):=by
 obtain⟨d,b,a⟩:=(VP h.pos).1 hi;rw[h.tk s hs]at a;have:=Ca h.pos (s:=s) a;have e:at_ c s (i+1)=at_ c s i+c.size:=by unfold at_;rw[zm];omega
 rw[e]at b;omega
theorem FN (h:dF c ss){k:Nat}{s:cG}{x:Int}{i:Nat}(hs:ss[k]?=some s)(hi:idx c s x=some i):kB c ss x=some k:=by
 obtain⟨p,e⟩:=cW.1 hs;refine m5.2 ⟨p,by rw[e,hi];rfl,λj r m=>?_⟩;have d:j<ss.length:=by omega
 obtain⟨u,g⟩:=pj.1 m;have a:=BO h (zG hs) hi;have b:=BO h (kg d) g;have:=h.si (cV d) hs r;omega
theorem E6 (h:dF c ss){x:Int}{b:Bool}:dY c ss x=some b↔∃(k:Nat) (s:cG) (i:Nat),ss[k]?=some s/\i<c.n/\x=((at_ c s i:Nat):Int)/\s.is i=b:=by
 constructor
 ·intro hx;obtain⟨k,s,i,_,a,d,g⟩:=H9 hx;obtain⟨m,j⟩:=(Ue h.pos).1 d;rw[h.tk s (zG a)]at j;exact⟨k,s,i,a,j,m,g⟩
 ·rintro⟨k,s,i,a,hi,rfl,g⟩;have p:=h.tk s (zG a);have d:obj c s ((at_ c s i:Nat):Int)=some i:=(Ue h.pos).2 ⟨rfl,O⟩;have e:idx c s ((at_ c s i:Nat):Int)=some i:=(VP h.pos).2 ⟨uI _,by have:=h.pos;unfold at_;rw[zm];omega,O⟩;rw[Vs (FN h a e) a,d,←g];rfl
theorem Vq (h:dF c ss){x:Int}:Tk c ss x↔∃(k:Nat) (s:cG) (i:Nat),ss[k]?=some s/\i<c.n/\x=((at_ c s i:Nat):Int)/\s.is i=true:=E6 h
theorem Fh (h:dF c ss){x:Int}{a:Nat}:pM c ss x=some a↔∃(k:Nat) (s:cG) (i:Nat),ss[k]?=some s/\i<c.n/\a=at_ c s i/\((at_ c s i:Nat):Int)<=x/\x<((at_ c s i+c.size:Nat):Int):=by
 constructor
 ·intro hf;cases ho:kB c ss x with
  | none=>rw[Fu ho]at hf;cases hf
  | some k=>
   have j:=(m5.1 ho).1;have b:ss[k]?=some ss[k]:=cV j;rw[HC ho b]at hf;obtain⟨i,g,rfl⟩:=ot.1 hf;have:=BO h (zG b) g;exact⟨k,_,i,b,this.1,rfl,this.2.2.2.1,this.2.2.2.2⟩
 ·rintro⟨k,s,i,b,g,rfl,h1,h2⟩;have m:=h.tk s (zG b);have e:at_ c s (i+1)=at_ c s i+c.size:=by unfold at_;rw[zm];omega
  have d:idx c s x=some i:=(VP h.pos).2 ⟨h1,by rw[e];exact h2,O⟩;rw[HC (FN h b d) b,d];rfl
theorem dF.put (h:dF c ss){k i:Nat}{s:cG}(hs:ss[k]?=some s)(v:Bool):dF c (ss.set k (s.put i v)):=by
 have r:=(cW.1 hs).1;refine⟨h.ok,λt p=>?_,?_⟩
 ·rcases wT p with p|rfl
  ·exact h.tk t p
  ·rw[show(s.put i v).tk.length=s.tk.length by simp[cG.put]];exact h.tk s (zG hs)
 ·rw[l3];intro a b ha hb hab;have m:a<ss.length:=by simpa using ha
  have g:b<ss.length:=by simpa using hb
  have d:∀j (hj:j<(ss.set k (s.put i v)).length) (hj':j<ss.length),(ss.set k (s.put i v))[j].st=ss[j].st:=by
   intro j hj hj';rw[List.getElem_set];split
   ·rename_i e;subst e;have:ss[k]=s:=(cW.1 hs).2;rw[this];rfl
   ·rfl
  rw[d a ha m,d b hb g];exact l3.1 h.sU a b m g hab
theorem Dl {k i:Nat}{s:cG}(hs:ss[k]?=some s)(v:Bool):(ss.set k (s.put i v)).map (·.st)=ss.map (·.st):=by
 apply zo;intro j;simp only[zg];by_cases hjk:j=k
 ·subst hjk;rw[zL (cW.1 hs).1,hs];rfl
 ·rw[zk (Ne.symm hjk)]
theorem Ab {s:cG}{i j:Nat}{v:Bool}(hi:i<s.tk.length):(s.put i v).is j=if j=i then v else s.is j:=by
 unfold cG.is cG.put;simp only[zO];by_cases hj:j=i
 ·subst hj;rw[zL hi,zC rfl];rfl
 ·rw[zk (Ne.symm hj),zB hj]
theorem Cg (h:dF c ss){k i:Nat}{s:cG}(hs:ss[k]?=some s)(hi:i<c.n)(v:Bool){y:Int}:Tk c (ss.set k (s.put i v)) y↔(y=((at_ c s i:Nat):Int)/\v=true)\/(y≠((at_ c s i:Nat):Int)/\Tk c ss y):=by
 have b:=(cW.1 hs).1;have g:=h.tk s (zG hs);have m:=h.pos;rw[Vq (h.put hs v),Vq h];constructor
 ·rintro⟨l,t,j,ht,hj,rfl,hb⟩;by_cases hlk:l=k
  ·subst hlk;rw[zL b]at ht;cases ht;rw[Ab O]at hb;by_cases a:j=i
   ·subst a;rw[zC rfl]at hb;exact .inl ⟨rfl,hb⟩
   ·rw[zB a]at hb;refine .inr ⟨λe=>a ?_,l,s,j,hs,hj,rfl,hb⟩;have d:at_ c s j=at_ c s i:=by have:=Int.ofNat.inj e;exact this
    exact(V0 h hs hs hj hi (zD _) O O O).2.2
  ·rw[zk (Ne.symm hlk)]at ht;refine .inr ⟨λe=>hlk ?_,l,t,j,ht,hj,rfl,hb⟩;have d:at_ c t j=at_ c s i:=Int.ofNat.inj e;exact(V0 h ht hs hj hi (zD _) O O O).1
 ·rintro(⟨rfl,rfl⟩|⟨hne,l,t,j,ht,hj,rfl,hb⟩)
  ·exact⟨k,s.put i true,i,zL b,hi,rfl,by rw[Ab O,zC rfl]⟩
  ·by_cases hlk:l=k
   ·subst hlk;rw[hs]at ht;cases ht;have a:j≠i:=λe=>hne (by rw[e]);exact⟨l,s.put i v,j,zL b,hj,rfl,by rw[Ab O,zB a];exact hb⟩
   ·exact⟨l,t,j,(zk (Ne.symm hlk)).trans ht,hj,rfl,hb⟩
theorem DJ {p:Nat}:tH c ss p↔∃x∈ss.map (·.st),x<=p/\p<x+c.aF:=by
 constructor
 ·rintro⟨s,a,h⟩;exact⟨_,zE.2 ⟨s,a,rfl⟩,h⟩
 ·rintro⟨x,hx,h⟩;obtain⟨s,a,rfl⟩:=zE.1 hx;exact⟨s,a,h⟩
theorem Lw {ss':List cG}(e:ss'.map (·.st)=ss.map (·.st)){p:Nat}:tH c ss' p↔tH c ss p:=by rw[DJ,DJ,e]
theorem Mh (h:dF c ss){x:Nat}{ss':List cG}(ho:iY c ss=some (x,ss')):dF c ss'/\ss'.map (·.st)=ss.map (·.st)/\¬Tk c ss (x:Int)/\∀y,Tk c ss' y↔y=(x:Int)\/Tk c ss y:=by
 unfold iY at ho;split at ho
 ·rename_i k hk;obtain⟨_,s,g,m⟩:=QC hk;rw[g]at ho;simp only at ho;split at ho
  ·rename_i i hi;cases ho;obtain⟨r,w,p,u⟩:=Gw m;rw[hi]at w;cases w;have j:i<c.n:=by rw[←h.tk s (zG g)];exact p
   have a:¬Tk c ss ((at_ c s i:Nat):Int):=λd=>by
    have z:=(E6 h (x:=((at_ c s i:Nat):Int)) (b:=false)).2 ⟨k,s,i,g,j,rfl,u⟩;unfold Tk at d;rw[z]at d;cases d
   refine⟨h.put g true,Dl g true,a,λy=>?_⟩;rw[Cg h g j];constructor
   ·rintro(⟨e,_⟩|⟨_,d⟩)
    ·exact .inl e
    ·exact .inr d
   ·rintro(e|d)
    ·exact .inl ⟨e,rfl⟩
    ·exact .inr ⟨λe=>a (e▸d),d⟩
  ·cases ho
 ·cases ho
theorem Hg:∀(m:Nat) {ss:List cG},dF c ss->dF c (QT c m ss).2/\(QT c m ss).2.map (·.st)=ss.map (·.st)/\(QT c m ss).1.length<=m/\(QT c m ss).1.Nodup/\(∀x∈(QT c m ss).1,¬Tk c ss (x:Int))/\∀y,Tk c (QT c m ss).2 y↔(∃x∈(QT c m ss).1,y=((x:Nat):Int))\/Tk c ss y
 | 0,ss,h=>⟨h,rfl,zD _,tg,by simp[QT],by simp[QT]⟩
 | m+1,ss,h=>by
  cases ho:iY c ss with
  | none=>
   have e:QT c (m+1) ss=([],ss):=by simp[QT,ho]
   rw[e];exact⟨h,rfl,by simp,tg,by simp,by simp⟩
  | some r=>
   obtain⟨x,s⟩:=r;rw[HD ho];obtain⟨i,j,z,a⟩:=Mh h ho;obtain⟨g,p,B,d,b,w⟩:=Hg m i;refine⟨g,p.trans j,by simp;omega,zr.2 ⟨λu=>b x u ((a _).2 (.inl rfl)),d⟩,?_,λy=>?_⟩
   ·intro y hy;rcases zW.1 hy with rfl|hy
    ·exact z
    ·exact λA=>b y hy ((a _).2 (.inr A))
   ·rw[w,a];simp only[zW,exists_eq_or_imp];constructor
    ·rintro(h|h|h)
     ·exact .inl (.inr h)
     ·exact .inl (.inl h)
     ·exact .inr h
    ·rintro((h|h)|h)
     ·exact .inr (.inl h)
     ·exact .inl h
     ·exact .inr (.inr h)
theorem E4:∀(xs:List Int) {ss:List cG},dF c ss->j8 c ss xs->dF c (xs.foldl (fF c) ss)/\(xs.foldl (fF c) ss).map (·.st)=ss.map (·.st)/\∀y,Tk c (xs.foldl (fF c) ss) y↔Tk c ss y/\y∉xs
 | [],ss,h,_=>⟨h,rfl,by simp⟩
 | x::xs,ss,h,hA=>by
  have hx:=hA.1 x aA;obtain⟨k,s,i,r,d,j,_⟩:=H9 hx;obtain⟨b,a⟩:=(Ue h.pos).1 j;rw[h.tk s (zG d)]at a;have e:=yh r d j;have p:=h.put d false (i:=i);have g:=hA.next h.pos;obtain⟨m,u,w⟩:=E4 xs (ss:=fF c ss x) (by rw[e];exact p) g;rw[qs];refine⟨m,u.trans (by rw[e];exact Dl d false),λy=>?_⟩;rw[w,e,Cg h d a,←b];simp only[zd,and_false,false_or,zW,not_or];constructor
  ·rintro⟨⟨b,a⟩,h3⟩;exact⟨a,b,h3⟩
  ·rintro⟨a,b,h3⟩;exact⟨⟨b,a⟩,h3⟩
theorem C1 {s:cG}(h0:s.many=0)(i:Nat):s.is i=false:=by
 unfold cG.many at h0;rw[xf]at h0;unfold cG.is;rw[zO];cases hi:s.tk[i]? with
 | none=>rfl
 | some b=>
  cases b
  ·rfl
  ·exact absurd (zG hi) h0
theorem dF.cF (h:dF c ss):dF c (Go.Ar.cF ss):=⟨h.ok,λs a=>h.tk s (zI.1 a).1,h.sU.filter _⟩
theorem EO (h:dF c ss){y:Int}:Tk c (cF ss) y↔Tk c ss y:=by
 rw[Vq h.cF,Vq h];constructor
 ·rintro⟨k,s,i,hs,hi,rfl,hb⟩;obtain⟨l,a⟩:=zQ (zI.1 (zG hs)).1;exact⟨l,s,i,a,hi,rfl,hb⟩
 ·rintro⟨k,s,i,hs,hi,rfl,hb⟩;have:s∈cF ss:=zI.2 ⟨zG hs,by
   have:s.many≠0:=λb=>by rw[C1 b i]at hb;cases hb
   simpa using this⟩
  obtain⟨l,a⟩:=zQ this;exact⟨l,s,i,a,hi,rfl,hb⟩
theorem BS {x:Nat}:x∈Qc ss↔∃s∈ss,s.many=0/\s.st=x:=by
 unfold Qc;simp only[zE,zI,zS,and_assoc]
theorem Fq (h:dF c ss){p:Nat}:tH c (cF ss) p↔tH c ss p/\¬∃x∈Qc ss,x<=p/\p<x+c.aF:=by
 constructor
 ·rintro⟨s,hs,h1,h2⟩;have b:=zI.1 hs;refine⟨⟨s,b.1,h1,h2⟩,?_⟩;rintro⟨x,hx,h3,h4⟩;obtain⟨t,m,d,rfl⟩:=BS.1 hx;obtain⟨i,g⟩:=zQ b.1;obtain⟨j,a⟩:=zQ m;have e:=h.vT g a h1 h2 h3 h4;subst e;rw[g]at a;cases a;simp[d]at b
 ·rintro⟨⟨s,hs,h1,h2⟩,hn⟩;refine⟨s,zI.2 ⟨hs,?_⟩,h1,h2⟩;have:s.many≠0:=λd=>hn ⟨s.st,BS.2 ⟨s,hs,d,rfl⟩,h1,h2⟩;simpa using this
theorem NG (h:dF c ss):(Qc ss).Pairwise λa b=>a+c.aF<=b:=by
 unfold Qc;rw[uk];exact h.sU.filter _
theorem Va {st:Nat}{t:cG}:t∈ie c ss st↔t=⟨st,List.replicate c.n false⟩\/t∈ss:=by
 unfold ie;rw[zK,zW];have:t∈ss↔t∈ss.takeWhile (λs=>decide (s.st<st))\/t∈ss.dropWhile (λs=>decide (s.st<st)):=by
  rw[←zK,List.takeWhile_append_dropWhile]
 rw[this];constructor
 ·rintro(h|h|h)
  ·exact .inr (.inl h)
  ·exact .inl h
  ·exact .inr (.inr h)
 ·rintro(h|h|h)
  ·exact .inr (.inl h)
  ·exact .inl h
  ·exact .inr (.inr h)
theorem Ce (h:dF c ss){st:Nat}(hd:∀s∈ss,s.st+c.aF<=st\/st+c.aF<=s.st):dF c (ie c ss st):=by
 refine⟨h.ok,λs m=>?_,?_⟩
 ·rcases Va.1 m with rfl|m
  ·simp
  ·exact h.tk s m
 ·have g:=Hz h.qD st;have u:=h.pg;rw[GL];refine px.2 ⟨h.sU.sublist (AE _ _),rD.2 ⟨λb e=>?_,h.sU.sublist (List.drop_sublist _ _)⟩,λa r b e=>?_⟩
  ·obtain⟨i,d⟩:=zQ e;rw[kL]at d;have:=g.2 _ _ d;rcases hd b (sd e)with h1|h1
   ·omega
   ·exact h1
  ·obtain⟨i,d⟩:=zQ r;rw[zj]at d;split at d
   ·rename_i hlt;rcases zW.1 e with rfl|e
    ·have:=(g.2 _ _ d).2 hlt;rcases hd a (zG d)with h1|h1
     ·exact h1
     ·omega
    ·obtain⟨j,p⟩:=zQ e;rw[kL]at p;exact h.si d p O
   ·cases d
theorem CL (h:dF c ss){st:Nat}(hd:∀s∈ss,s.st+c.aF<=st\/st+c.aF<=s.st){y:Int}:Tk c (ie c ss st) y↔Tk c ss y:=by
 rw[Vq (Ce h hd),Vq h];constructor
 ·rintro⟨k,s,i,hs,hi,rfl,hb⟩;rcases Va.1 (zG hs)with rfl|hm
  ·have:(⟨st,List.replicate c.n false⟩:cG).is i=false:=C1 (by simp[cG.many,xZ]) i;rw[this]at hb;cases hb
  ·obtain⟨l,a⟩:=zQ hm;exact⟨l,s,i,a,hi,rfl,hb⟩
 ·rintro⟨k,s,i,hs,hi,rfl,hb⟩;obtain⟨l,a⟩:=zQ (Va.2 (.inr (zG hs)):s∈ie c ss st);exact⟨l,s,i,a,hi,rfl,hb⟩
theorem LK {st:Nat}(hd:∀s∈ss,s.st+c.aF<=st\/st+c.aF<=s.st):HX c ss st=0:=by
 unfold HX;rw[zB];simp only[j9,zU,not_exists,not_and];intro s hs hlt;rcases hd s hs with h|h<;>omega
end Go.Ar
namespace Go.Ar
open Go.Bu (Zb Qx Y8 oY KQ dD take QZ Kq Bounded)
def gf (st:List Nat)(p:Nat):Nat:=st.getD p 0
def AR.f (A:AR)(p:Nat):Nat:=gf A.st p
def l6 (rs:List (Nat×Nat))(p:Nat):Prop:=∃r∈rs,r.1<=p/\p<r.1+r.2
theorem LY {st:List Nat}{p:Nat}(h:gf st p≠0):p<st.length:=by
 apply Classical.byContradiction;intro hn;exact h (by unfold gf;rw[zO,zV O];rfl)
theorem uD {st:List Nat}{a b v p:Nat}(hb:b<=st.length):gf (gg st a b v) p=if a<=p/\p<b then v else gf st p:=by
 unfold gf;rw[zO,zO,UV];by_cases hp:p<st.length
 ·rw[cV hp];simp only[zX,pC]
 ·rw[zV O,zB O];rfl
theorem V3 {n a m:Nat}:Zb n (a:Int) (m:Int)=true↔1<=m/\a+m<=n:=by
 simp only[Zb,zF,zU];omega
theorem IL {st:List Nat}{a m:Nat}{fr:List Nat}(hl:a+m<=st.length):tC st a m fr=true↔∀p,a<=p->p<a+m->gf st p∈fr:=by
 unfold tC;rw[jW];constructor
 ·intro h p h1 h2;have d:p<st.length:=by omega
  have:st[p]∈(st.drop a).take m:=by
   refine zG (i:=p-a) ?_;rw[zj,zC O,kL,show a+(p-a)=p by omega,cV d]
  have:=h _ this;unfold gf;rw[zO,cV d];simpa using this
 ·intro h x hx;obtain⟨i,b⟩:=zQ hx;rw[zj]at b;split at b
  ·rename_i hlt;rw[kL]at b;have:=h (a+i) O O;unfold gf at this;rw[zO,b]at this;simpa using this
  ·cases b
theorem FX {st:List Nat}{a m v:Nat}{fr:List Nat}(h1:1<=m)(hl:a+m<=st.length)(h:∀p,a<=p->p<a+m->gf st p∈fr):V2 st (a:Int) (m:Int) v fr=gg st a (a+m) v:=by
 unfold V2 GE;rw[zC (V3.2 ⟨h1,hl⟩),dE,dE,(IL hl).2 h];rfl
structure PG (A:AR):Prop where
 len:A.st.length=A.n
 n1:32<=A.n
 n2:A.n<=1024
 n16:A.n%16=0
 le:∀p,A.f p<=3
 us:∀p,A.f p=1↔A.ow p≠0
 fr:∀p,A.S p=true↔2<=A.f p
 hp:∀p,A.f p=0↔A.f (p/16*16)=0
theorem PG.lt {A:AR}(h:PG A){p:Nat}(hp:A.f p≠0):p<A.n:=h.len▸LY hp
theorem PG.jo {A:AR}(h:PG A):Bounded A.S A.n:=λp a=>h.lt (by have:=(h.fr p).1 a;omega)
theorem PG.kE {A:AR}(h:PG A){p q:Nat}(e:p/16=q/16):A.f p=0↔A.f q=0:=by rw[h.hp p,h.hp q,e]
theorem PG.same {A B:AR}(h:PG A)(e1:B.n=A.n)(e2:B.st=A.st)(e3:B.S=A.S)(e4:B.ow=A.ow):PG B:=by
 have a:∀p,B.f p=A.f p:=λp=>by unfold AR.f;rw[e2]
 exact⟨by rw[e2,e1];exact h.len,by rw[e1];exact h.n1,by rw[e1];exact h.n2,by rw[e1];exact h.n16,λp=>by rw[a];exact h.le p,λp=>by rw[a,e4];exact h.us p,λp=>by rw[a,e3];exact h.fr p,λp=>by rw[a,a];exact h.hp p⟩
theorem En {ow:Nat->Nat}{a m no:Nat}(h1:1<=m)(h2:a+m<=1024)(p:Nat):jx ow a m no p=if a<=p/\p<a+m then no else ow p:=by
 unfold jx;rw[zC (V3.2 ⟨h1,h2⟩)]
theorem DO {n:Nat}{S:Nat->Bool}{a m:Nat}(h1:1<=m)(h2:a+m<=n)(h:∀p,a<=p->p<a+m->S p=false):Qx n S (a:Int) (m:Int)=dD S a (a+m):=by
 unfold Qx;rw[V3.2 ⟨h1,h2⟩,dE,dE,KQ.2 h];rfl
structure Out (A B:AR) (a b:Nat):Prop where
 n:B.n=A.n
 len:B.st.length=A.st.length
 f:∀p,¬(a<=p/\p<b)->B.f p=A.f p
 ow:∀p,¬(a<=p/\p<b)->B.ow p=A.ow p
 S:∀p,¬(a<=p/\p<b)->B.S p=A.S p
theorem Out.pg {A B:AR}{a b v:Nat}(o:Out A B a b)(h:PG A)(hv:v<=3)(hf:∀p,a<=p->p<b->B.f p=v)(hw:∀p,a<=p->p<b->(v=1↔B.ow p≠0))(hS:∀p,a<=p->p<b->(B.S p=true↔2<=v))
 (hz:∀p,B.f p=0↔B.f (p/16*16)=0):PG B:=by
 refine⟨by rw[o.len,o.n];exact h.len,by rw[o.n];exact h.n1,by rw[o.n];exact h.n2,by rw[o.n];exact h.n16,λp=>?_,λp=>?_,λp=>?_,hz⟩
 ·by_cases hp:a<=p/\p<b
  ·rw[hf p hp.1 hp.2];exact hv
  ·rw[o.f p hp];exact h.le p
 ·by_cases hp:a<=p/\p<b
  ·rw[hf p hp.1 hp.2];exact hw p hp.1 hp.2
  ·rw[o.f p hp,o.ow p hp];exact h.us p
 ·by_cases hp:a<=p/\p<b
  ·rw[hf p hp.1 hp.2];exact hS p hp.1 hp.2
  ·rw[o.f p hp,o.S p hp];exact h.fr p
theorem Out.zero {A B:AR}{a b v:Nat}(o:Out A B a b)(h:PG A)(hf:∀p,a<=p->p<b->B.f p=v)(hv:v≠0)(hA:∀p,a<=p->p<b->A.f p≠0):∀p,B.f p=0↔A.f p=0:=by
 intro p;by_cases hp:a<=p/\p<b
 ·rw[hf p hp.1 hp.2];exact⟨λe=>(hv e).elim,λe=>(hA p hp.1 hp.2 e).elim⟩
 ·rw[o.f p hp]
theorem D0 {A B:AR}(h:PG A)(e:∀p,B.f p=0↔A.f p=0):∀p,B.f p=0↔B.f (p/16*16)=0:=λp=>by rw[e,e];exact h.hp p
theorem E0 {A:AR}(h:PG A){a m:Nat}(h1:1<=m)(hu:∀p,a<=p->p<a+m->A.f p=1):Out A (Vx A (a,m)) a (a+m)/\(∀p,a<=p->p<a+m->(Vx A (a,m)).f p=2/\(Vx A (a,m)).ow p=0)/\PG (Vx A (a,m))/\∀p,(Vx A (a,m)).f p=0↔A.f p=0:=by
 have g:a+m<=A.n:=by have:=h.lt (p:=a+m-1) (by rw[hu _ O O];omega);omega
 have w:=h.n2;have e1:(Vx A (a,m)).st=gg A.st a (a+m) 2:=FX h1 (by rw[h.len];exact g) λp d b=>by
  have:=hu p d b;unfold AR.f at this;rw[this];simp
 have e2:(Vx A (a,m)).S=dD A.S a (a+m):=DO h1 g λp d b=>by
  apply mR.2;intro hS;have:=(h.fr p).1 hS;have:=hu p d b;omega
 have u:∀p,(Vx A (a,m)).ow p=if a<=p/\p<a+m then 0 else A.ow p:=λp=>En h1 O p
 have s:∀p,(Vx A (a,m)).f p=if a<=p/\p<a+m then 2 else A.f p:=λp=>by unfold AR.f;rw[e1,uD (by rw[h.len];exact g)]
 have o:Out A (Vx A (a,m)) a (a+m):=⟨rfl,by rw[e1,Kv],λp e=>by rw[s,zB e],λp e=>by rw[u,zB e],λp e=>by
  rw[e2];unfold dD;have:(decide (a<=p)&&decide (p<a+m))=false:=by simp;omega
  rw[this,Bool.or_false]⟩
 have i:∀p,a<=p->p<a+m->(Vx A (a,m)).f p=2:=λp d b=>by rw[s,zC ⟨d,b⟩]
 have r:∀p,a<=p->p<a+m->(Vx A (a,m)).ow p=0:=λp d b=>by rw[u,zC ⟨d,b⟩]
 have j:=o.zero h i O λp d b=>by rw[hu p d b];omega
 refine⟨o,λp d b=>⟨i p d b,r p d b⟩,o.pg h O i (λp d b=>by rw[r p d b];simp) (λp d b=>?_) (D0 h j),j⟩;rw[e2,QZ];exact⟨λ_=>zD _,λ_=>.inr ⟨d,b⟩⟩
structure ru (A B:AR) (rs:List (Nat×Nat)):Prop where
 pg:PG B
 n:B.n=A.n
 tb:B.tb=A.tb
 room:B.room=A.room
 cM:B.cM=A.cM
 cE:B.cE=A.cE
 runs:B.runs=A.runs
 i:∀p,l6 rs p->B.f p=2/\B.ow p=0
 o:∀p,¬l6 rs p->B.f p=A.f p/\B.ow p=A.ow p
 z:∀p,B.f p=0↔A.f p=0
theorem Dw:∀(rs:List (Nat×Nat)) {A:AR},PG A->(∀r∈rs,1<=r.2)->(∀r∈rs,∀p,r.1<=p->p<r.1+r.2->A.f p=1)->rs.Pairwise (λa b=>a.1+a.2<=b.1\/b.1+b.2<=a.1)->ru A (VR A rs) rs
 | [],A,h,_,_,_=>⟨h,rfl,rfl,rfl,rfl,rfl,rfl,λp ⟨r,hr,_⟩=>by simp at hr,λp _=>⟨rfl,rfl⟩,λp=>Iff.rfl⟩
 | (a,m)::rs,A,h,hp,hu,hd=>by
  have hd':=rD.1 hd;obtain⟨o,C,x,B⟩:=E0 h (hp _ (pG ..)) (hu _ (pG ..));have d:=Dw rs x (λr hr=>hp r (np _ hr)) (λr hr p s u=>by
   have:=hd'.1 r hr;simp only at this;rw[o.f p O];exact hu r (np _ hr) p s u) hd'.2
  have e:VR A ((a,m)::rs)=VR (Vx A (a,m)) rs:=rfl;rw[e];refine⟨d.pg,d.n,d.tb,d.room,d.cM,d.cE,d.runs,λp g=>?_,λp g=>?_,λp=>(d.z p).trans (B p)⟩
  ·by_cases j:l6 rs p
   ·exact d.i p j
   ·have:=d.o p j;obtain⟨r,hr,s,u⟩:=g;rcases zW.1 hr with rfl|hr
    ·rw[this.1,this.2];exact C p s u
    ·exact(j ⟨r,hr,s,u⟩).elim
  ·have j:¬l6 rs p:=λ⟨r,hr,w⟩=>g ⟨r,np _ hr,w⟩;have y:¬(a<=p/\p<a+m):=λw=>g ⟨(a,m),pG ..,w⟩;have:=d.o p j;exact⟨this.1.trans (o.f p y),this.2.trans (o.ow p y)⟩
theorem Ai {A:AR}(h:PG A){a m no:Nat}(h1:1<=m)(hn:no≠0)(hS:∀p,a<=p->p<a+m->A.S p=true):Out A (dO A a m no) a (a+m)/\(∀p,a<=p->p<a+m->(dO A a m no).f p=1/\(dO A a m no).ow p=no)/\PG (dO A a m no)/\∀p,(dO A a m no).f p=0↔A.f p=0:=by
 have i:∀p,a<=p->p<a+m->2<=A.f p:=λp d b=>(h.fr p).1 (hS p d b);have r:a+m<=A.n:=by have:=h.lt (p:=a+m-1) (by have:=i (a+m-1) O O;omega);omega
 have z:=h.n2;have e1:(dO A a m no).st=gg A.st a (a+m) 1:=FX h1 (by rw[h.len];exact r) λp d b=>by
  have x:=i p d b;have y:=h.le p;unfold AR.f at x y;have:gf A.st p=2\/gf A.st p=3:=by omega
  simpa using this
 have w:∀p,(dO A a m no).ow p=if a<=p/\p<a+m then no else A.ow p:=λp=>En h1 O p
 have u:∀p,(dO A a m no).f p=if a<=p/\p<a+m then 1 else A.f p:=λp=>by unfold AR.f;rw[e1,uD (by rw[h.len];exact r)]
 have o:Out A (dO A a m no) a (a+m):=⟨rfl,by rw[e1,Kv],λp e=>by rw[u,zB e],λp e=>by rw[w,zB e],λp e=>by
  show take A.S a (a+m) p=A.S p;unfold take;have:(decide (a<=p)&&decide (p<a+m))=false:=by simp;omega
  rw[this];simp⟩
 have g:∀p,a<=p->p<a+m->(dO A a m no).f p=1:=λp d b=>by rw[u,zC ⟨d,b⟩]
 have s:∀p,a<=p->p<a+m->(dO A a m no).ow p=no:=λp d b=>by rw[w,zC ⟨d,b⟩]
 have j:=o.zero h g O λp d b=>by have:=i p d b;omega
 refine⟨o,λp d b=>⟨g p d b,s p d b⟩,o.pg h O g (λp d b=>by rw[s p d b];simp[hn]) (λp d b=>?_) (D0 h j),j⟩;show take A.S a (a+m) p=true↔_;rw[Kq];constructor
 ·rintro⟨_,hx⟩;exact(hx ⟨d,b⟩).elim
 ·intro hx;omega
theorem Cp:∀(m:Nat) {st:List Nat} {a:Nat},(a+m)*16<=st.length->(∀p,a*16<=p->p<(a+m)*16->gf st p=0)->(Uv st a m).length=st.length/\∀p,gf (Uv st a m) p=if a*16<=p/\p<(a+m)*16 then 3 else gf st p
 | 0,st,a,hl,hz=>⟨rfl,λp=>by rw[zB O];rfl⟩
 | m+1,st,a,hl,hz=>by
  obtain⟨i1,i2⟩:=Cp m (st:=st) (a:=a) O λp d g=>hz p d O;rw[Fy];have b:gf (Uv st a m) (16*(a+m))=0:=by rw[i2,zB O];exact hz _ O O
  have ok:j6 (Uv st a m) ((a+m:Nat):Int)=0:=by
   unfold j6;rw[E5 (by rw[i1];omega),zC rfl,dE];unfold gf at b;rw[zC b]
  have e:iQ (Uv st a m) ((a+m:Nat):Int)=gg (Uv st a m) (16*(a+m)) (16*(a+m)+16) 3:=by
   unfold iQ;rw[zC ok,dE]
  rw[e];refine⟨by rw[Kv,i1],λp=>?_⟩;rw[uD (by rw[i1];omega),i2];by_cases h1:16*(a+m)<=p/\p<16*(a+m)+16
  ·rw[zC h1,zC O]
  ·rw[zB h1];by_cases h2:a*16<=p/\p<(a+m)*16
   ·rw[zC h2,zC O]
   ·rw[zB h2,zB O]
theorem GC {sp:Sp}{s m:Nat}(h:fB sp (s:Int) (m:Int)=0):1<=m/\s+m<=sp.st.length/\∀p,s<=p->p<s+m->gf sp.st p=0:=by
 unfold fB at h;split at h
 ·rename_i hr;obtain⟨b,d⟩:=V3.1 hr;rw[dE,dE]at h;split at h
  ·cases h
  ·rename_i hn;refine⟨b,d,λp g j=>?_⟩;have a:p<sp.st.length:=by omega
   have e:sp.st[p]∈(sp.st.drop s).take m:=by
    refine zG (i:=p-s) ?_;rw[zj,zC O,kL,show s+(p-s)=p by omega,cV a]
   simp only[j9,not_exists,not_and]at hn;have:=hn _ e;unfold gf;rw[zO,cV a];simpa using this
 ·cases h
structure Grown (A B:AR) (sp sp':Sp) (s size:Nat):Prop where
 pg:PG B
 n:B.n=A.n
 tb:B.tb=A.tb
 room:B.room=A.room
 cM:B.cM=A.cM
 cE:B.cE=A.cE
 runs:B.runs=A.runs
 ow:B.ow=A.ow
 Sr:s%16=0
 s1:16<=s
 sl:s+size<=A.n
 un:∀p,s<=p->p<s+size->gf sp.st p=0
 i:∀p,s<=p->p<s+size->B.f p=3/\gf sp'.st p=1
 o:∀p,¬(s<=p/\p<s+size)->B.f p=A.f p/\gf sp'.st p=gf sp.st p
 w:∀x,¬(s*32<=x/\x<(s+size)*32)->sp'.wd x=sp.wd x
 l:sp'.st.length=sp.st.length
 pk:sp'.pk=sp.pk
theorem Uw {sp:Sp}{size s:Nat}(h1:1<=size)(h:cY sp size=some s):fB sp (s:Int) (size:Int)=0/\s≠0/\(∃j,s=j*size)/\∀j,j*size<s->1<=j->fB sp ((j*size:Nat):Int) (size:Int)≠0:=by
 unfold cY at h;obtain⟨r,us,vs,u,A⟩:=List.find?_eq_some_iff_append.1 h;simp only[zF,bne_iff_ne,ne_eq,zS]at r;have e:s∈(List.range (sp.st.length/size)).map (· * size):=by rw[u];simp
 obtain⟨j,w,rfl⟩:=zE.1 e;rw[zc]at w;refine⟨r.2,r.1,⟨j,rfl⟩,λi x z=>?_⟩;have y:i<j:=Nat.lt_of_mul_lt_mul_right x;have:i*size∈us:=by
  have g:i*size∈(List.range (sp.st.length/size)).map (· * size):=zE.2 ⟨i,zc.2 O,rfl⟩;have d:((List.range (sp.st.length/size)).map (· * size)).Pairwise (· < ·):=by
   rw[uk];exact List.pairwise_lt_range.imp λ{a b} m=>Nat.mul_lt_mul_of_pos_right m O
  rw[u]at g d;rcases zK.1 g with h|h
  ·exact h
  ·rcases zW.1 h with h|h
   ·have:=vO O h;omega
   ·have:=(rD.1 (px.1 d).2.1).1 _ h;omega
 have:=A _ this;have p:i*size≠0:=by
  have:=Nat.mul_pos (show 0<i by omega) (show 0<size by omega);omega
 simpa[p]using this
theorem Ed {sp:Sp}{s m:Nat}(h:fB sp (s:Int) (m:Int)=0):(fT sp (s:Int) (m:Int)).st.length=sp.st.length/\(∀p,gf (fT sp (s:Int) (m:Int)).st p=if s<=p/\p<s+m then 1 else gf sp.st p)/\(∀x,¬(s*32<=x/\x<(s+m)*32)->(fT sp (s:Int) (m:Int)).wd x=sp.wd x)/\(fT sp (s:Int) (m:Int)).pk=sp.pk:=by
 obtain⟨d,a,_⟩:=GC h;unfold fT;rw[zC h,dE,dE];refine⟨by simp[Sp.set,Kv],λp=>uD a,λx b=>?_,rfl⟩;show(if s*32<=x/\x<(s+m)*32 then 0 else sp.wd x)=_
 rw[zB b]
theorem JM {A:AR}{sp:Sp}(h:PG A)(hl:sp.st.length=A.n)(hz:∀p,gf sp.st p=0->A.f p=0){size:Nat}(hs:size=16\/size=32\/size=64){B:AR}{sp':Sp}(hg:Ut A sp size=some (B,sp')) :
 ∃s,cY sp size=some s/\Grown A B sp sp' s size:=by
 unfold Ut at hg;split at hg
 ·cases hg
 ·rename_i s hgs;cases hg;obtain⟨x,H,⟨j,K⟩,_⟩:=Uw O hgs;obtain⟨D,z,w⟩:=GC x;have m:s%16=0:=by rcases hs with rfl|rfl|rfl<;>omega
  have u:size%16=0:=by rcases hs with rfl|rfl|rfl<;>omega
  have e1:s/16*16=s:=by omega
  have e2:(s/16+size/16)*16=s+size:=by omega
  have e:∀p,s<=p->p<s+size->A.f p=0:=λp d b=>hz p (w p d b);obtain⟨J,i⟩:=Cp (size/16) (st:=A.st) (a:=s/16) (by rw[e2,h.len,←hl];exact z) (by rw[e1,e2];exact e);rw[e1,e2]at i;obtain⟨G,y,F,E⟩:=Ed x;have g:s+size<=A.n:=by rw[←hl];exact z
  have C:Qx A.n A.S (s:Int) (size:Int)=dD A.S s (s+size):=DO D g λp d b=>by
   apply mR.2;intro hS;have:=(h.fr p).1 hS;have:=e p d b;omega
  refine⟨s,hgs,⟨?_,rfl,rfl,rfl,rfl,rfl,rfl,rfl,m,O,g,w,λp d b=>⟨?_,?_⟩,λp hp=>⟨?_,?_⟩,F,G,E⟩⟩
  ·have o:Out A {A with st:=Uv A.st (s/16) (size/16),S:=Qx A.n A.S (s:Int) (size:Int)} s (s+size):=⟨rfl,J,λp hp=>by show gf _ p=_;rw[i,zB hp];rfl,λp hp=>rfl,λp hp=>by
    show Qx A.n A.S (s:Int) (size:Int) p=A.S p;rw[C];unfold dD;have:(decide (s<=p)&&decide (p<s+size))=false:=by simp;omega
    rw[this,Bool.or_false]⟩
   have r:∀p,s<=p->p<s+size->AR.f {A with st:=Uv A.st (s/16) (size/16),S:=Qx A.n A.S (s:Int) (size:Int)} p=3:=λp d b=>by show gf _ p=3;rw[i,zC ⟨d,b⟩]
   refine o.pg h (zD _) r (λp d b=>?_) (λp d b=>?_) λp=>?_
   ·have H:=e p d b;have:=h.us p;constructor
    ·intro hx;omega
    ·intro hx;have:=this.2 hx;omega
   ·show Qx A.n A.S (s:Int) (size:Int) p=true↔_;rw[C,QZ];exact⟨λ_=>O,λ_=>.inr ⟨d,b⟩⟩
   ·by_cases hp:s<=p/\p<s+size
    ·rw[r p hp.1 hp.2,r (p/16*16) O O]
    ·rw[o.f p hp,o.f (p/16*16) O];exact h.hp p
  ·show gf (Uv A.st (s/16) (size/16)) p=3;rw[i,zC ⟨d,b⟩]
  ·rw[y,zC ⟨d,b⟩]
  ·show gf (Uv A.st (s/16) (size/16)) p=A.f p;rw[i,zB hp];rfl
  ·rw[y,zB hp]
end Go.Ar
namespace Go.Ar
open Go.Bu (Zb Qx Y8 oY KQ dD take QZ Kq Bounded full can Yv Ul Zu QD ZD Q0 Qy ZZ)
def Cl (A:AR)(k:Nat)(c:bZ)(ss:List cG):Prop:=A.tb[k]?=some c/\A.cE[k]?=some ss
def fP (A:AR)(k:Nat)(x:Int):Prop:=∃c ss,Cl A k c ss/\Tk c ss x
def gS (A:AR)(k:Nat)(x:Int):Prop:=∃t,A.cM[k]?=some t/\x∈t.bs.flatten
structure GA (A:AR):Prop where
 pg:PG A
 tb:A.tb.length<=40
 lc:A.cE.length=A.tb.length
 lt:A.cM.length=A.tb.length
 cE:∀k c ss,Cl A k c ss->dF c ss
 one:∀k c ss,Cl A k c ss->∀s∈ss,s.st/16=(s.st+c.aF-1)/16
 ow:∀k c ss,Cl A k c ss->∀p,A.ow p=k+1↔tH c ss p
 jJ:∀p,A.ow p=41↔l6 A.runs p
 qW:∀p,A.ow p=41\/A.ow p<=A.tb.length
 gM:∀r∈A.runs,1<=r.2
 kh:A.runs.Pairwise λa b=>a.1+a.2<=b.1\/b.1+b.2<=a.1
 pn:∀(k:Nat) (t:gE),A.cM[k]?=some t->t.bs.flatten.Nodup
 lN:∀(k:Nat) c ss (t:gE),Cl A k c ss->A.cM[k]?=some t->∀x∈t.bs.flatten,Tk c ss x
 oE:∀(k:Nat) (c:bZ) (t:gE),A.tb[k]?=some c->A.cM[k]?=some t->∀xs∈t.bs,xs.length=c.batch
structure Kp (A B:AR):Prop where
 n:B.n=A.n
 tb:B.tb=A.tb
 room:B.room=A.room
 z:∀p,B.f p=0↔A.f p=0
 t:∀p,B.f p=3->A.f p=3
theorem Kp.refl (A:AR):Kp A A:=⟨rfl,rfl,rfl,λ_=>Iff.rfl,λ_=>id⟩
theorem Kp.trans {A B C:AR}(h:Kp A B)(k:Kp B C):Kp A C:=⟨k.n.trans h.n,k.tb.trans h.tb,k.room.trans h.room,λp=>(k.z p).trans (h.z p),λp a=>h.t p (k.t p a)⟩
theorem Kp.aF {A B:AR}(e1:B.n=A.n)(e2:B.tb=A.tb)(e3:B.room=A.room)(e4:B.st=A.st):Kp A B:=⟨e1,e2,e3,λp=>by unfold AR.f;rw[e4],λp=>by unfold AR.f;rw[e4];exact id⟩
variable {A:AR}{k:Nat}{c:bZ}{ss:List cG}
theorem Cl.lt (h:Cl A k c ss):k<A.tb.length:=(cW.1 h.1).1
theorem Cl.eq {c':bZ}{ss':List cG}(h:Cl A k c ss)(h':Cl A k c' ss'):c=c'/\ss=ss':=⟨Option.some.inj (h.1.symm.trans h'.1),Option.some.inj (h.2.symm.trans h'.2)⟩
theorem GA.cl (h:GA A){k:Nat}(hk:k<A.tb.length):∃c ss t,Cl A k c ss/\A.cM[k]?=some t:=by
 have a:=h.lc;have b:=h.lt;exact⟨A.tb[k],A.cE[k],A.cM[k],⟨by simp,by simp⟩,by simp⟩
theorem GA.used (h:GA A)(hk:Cl A k c ss){s:cG}(hs:s∈ss){p:Nat}(h1:s.st<=p)(h2:p<s.st+c.aF):A.f p=1/\A.ow p=k+1:=by
 have:=(h.ow k c ss hk p).2 ⟨s,hs,h1,h2⟩;exact⟨(h.pg.us p).2 O,this⟩
theorem GA.jj (h:GA A){r:Nat×Nat}(hr:r∈A.runs){p:Nat}(h1:r.1<=p)(h2:p<r.1+r.2):A.f p=1/\A.ow p=41:=by
 have:=(h.jJ p).2 ⟨r,hr,h1,h2⟩;exact⟨(h.pg.us p).2 O,this⟩
theorem GA.gH (h:GA A){r s:Nat×Nat}(hr:r∈A.runs)(hs:s∈A.runs){x:Nat}(h1:r.1<=x)(h2:x<r.1+r.2)(h3:s.1<=x)(h4:x<s.1+s.2):r=s:=by
 obtain⟨i,e⟩:=zQ hr;obtain⟨j,d⟩:=zQ hs;obtain⟨a,rfl⟩:=cW.1 e;obtain⟨b,rfl⟩:=cW.1 d;rcases oZ i j with hl|hl|hl
 ·have:=l3.1 h.kh i j a b hl;omega
 ·subst hl;rfl
 ·have:=l3.1 h.kh j i b a hl;omega
theorem GA.fit (h:GA A){r:Nat×Nat}(hr:r∈A.runs):r.1+r.2<=A.n:=by
 have:=h.gM r hr;have:=h.pg.lt (p:=r.1+r.2-1) (by rw[(h.jj hr (p:=r.1+r.2-1) O O).1];omega);omega
theorem GA.nO (h:GA A):iI A:=by
 have u:=h.pg.n2;refine⟨λr b s i x d g m p=>h.gH b i d g m p,λx j a=>?_,λx j w a=>?_,λr b=>?_⟩
 ·obtain⟨r,b,d,g⟩:=(h.jJ x).1 a;unfold rF;rw[Au];exact⟨r,b,by simp[d,g]⟩
 ·rcases h.qW x with e|e
  ·exact(a e).elim
  ·exact e
 ·have:=h.fit b;omega
theorem V6 (hk:Cl A k c ss){ss':List cG}{j:Nat}{d:bZ}{tt:List cG}(h:Cl {A with cE:=A.cE.set k ss'} j d tt):(j=k/\d=c/\tt=ss')\/(j≠k/\Cl A j d tt):=by
 obtain⟨b,a⟩:=h;by_cases hjk:j=k
 ·subst hjk;have e:=(cW.1 hk.2).1;simp only[zL e]at a;exact .inl ⟨rfl,Option.some.inj (b.symm.trans hk.1),(Option.some.inj a).symm⟩
 ·simp only[zk (Ne.symm hjk)]at a;exact .inr ⟨hjk,b,a⟩
theorem UG (hk:Cl A k c ss)(ss':List cG):Cl {A with cE:=A.cE.set k ss'} k c ss':=⟨hk.1,zL (cW.1 hk.2).1⟩
theorem O5 {ss':List cG}{j:Nat}{d:bZ}{tt:List cG}(hjk:j≠k)(h:Cl A j d tt):Cl {A with cE:=A.cE.set k ss'} j d tt:=⟨h.1,(zk (Ne.symm hjk)).trans h.2⟩
theorem GA.kG (h:GA A)(hk:Cl A k c ss){ss':List cG}(hC:dF c ss')(hst:ss'.map (·.st)=ss.map (·.st))(ht:∀t,A.cM[k]?=some t->∀x∈t.bs.flatten,Tk c ss' x):GA {A with cE:=A.cE.set k ss'}:=by
 refine⟨h.pg.same rfl rfl rfl rfl,h.tb,by simp[h.lc],h.lt,λj d b a=>?_,λj d b a s i=>?_,λj d b a p=>?_,h.jJ,h.qW,h.gM,h.kh,h.pn,λj d b t a g=>?_,h.oE⟩
 ·rcases V6 hk a with⟨rfl,rfl,rfl⟩|⟨hne,a⟩
  ·exact hC
  ·exact h.cE j d b a
 ·rcases V6 hk a with⟨rfl,rfl,rfl⟩|⟨hne,a⟩
  ·have:s.st∈ss.map (·.st):=by rw[←hst];exact zE.2 ⟨s,i,rfl⟩
   obtain⟨t,ht,e⟩:=zE.1 this;rw[←e];exact h.one _ _ _ hk t ht
  ·exact h.one j d b a s i
 ·rcases V6 hk a with⟨rfl,rfl,rfl⟩|⟨hne,a⟩
  ·rw[Lw hst];exact h.ow _ _ _ hk p
  ·exact h.ow j d b a p
 ·rcases V6 hk a with⟨rfl,rfl,rfl⟩|⟨hne,a⟩
  ·exact ht t g
  ·exact h.lN j d b t a g
theorem yg (hk:Cl A k c ss){ss':List cG}{j:Nat}{x:Int}:fP {A with cE:=A.cE.set k ss'} j x↔(j=k/\Tk c ss' x)\/(j≠k/\fP A j x):=by
 constructor
 ·rintro⟨d,tt,hj,hx⟩;rcases V6 hk hj with⟨rfl,rfl,rfl⟩|⟨hne,hj⟩
  ·exact .inl ⟨rfl,hx⟩
  ·exact .inr ⟨hne,d,tt,hj,hx⟩
 ·rintro(⟨rfl,hx⟩|⟨hne,d,tt,hj,hx⟩)
  ·exact⟨c,ss',UG hk ss',hx⟩
  ·exact⟨d,tt,O5 hne hj,hx⟩
theorem KN (hk:Cl A k c ss){x:Int}:fP A k x↔Tk c ss x:=by
 constructor
 ·rintro⟨d,tt,hj,hx⟩;obtain⟨rfl,rfl⟩:=hk.eq hj;exact hx
 ·intro hx;exact⟨c,ss,hk,hx⟩
def swp (A:AR)(k:Nat)(c:bZ)(ss:List cG):AR:=VR {A with cE:=A.cE.set k (cF ss)} ((Qc ss).map λs=>(s,c.aF))
theorem GU {p:Nat}:l6 ((Qc ss).map λs=>(s,c.aF)) p↔∃x∈Qc ss,x<=p/\p<x+c.aF:=by
 unfold l6;simp only[zE];constructor
 ·rintro⟨_,⟨x,hx,rfl⟩,h⟩;exact⟨x,hx,h⟩
 ·rintro⟨x,hx,h⟩;exact⟨_,⟨x,hx,rfl⟩,h⟩
theorem GA.jG (h:GA A)(hk:Cl A k c ss){x:Nat}(hx:x∈Qc ss){p:Nat}(h1:x<=p)(h2:p<x+c.aF):A.f p=1/\A.ow p=k+1:=by
 obtain⟨s,a,_,rfl⟩:=BS.1 hx;exact h.used hk a h1 h2
theorem GA.qv (h:GA A)(hk:Cl A k c ss):ru {A with cE:=A.cE.set k (cF ss)} (swp A k c ss) ((Qc ss).map λs=>(s,c.aF)):=by
 have g:=h.cE k c ss hk;refine Dw _ (h.pg.same rfl rfl rfl rfl) (λr d=>?_) (λr d p m i=>?_) ?_
 ·obtain⟨x,_,rfl⟩:=zE.1 d;exact g.pg
 ·obtain⟨x,j,rfl⟩:=zE.1 d;exact(h.jG hk j m i).1
 ·rw[uk];exact(NG g).imp λ{a b} e=>.inl e
theorem GA.swp (h:GA A)(hk:Cl A k c ss):GA (Go.Ar.swp A k c ss):=by
 have b:=h.qv hk;have w:=h.cE k c ss hk;have D:=hk.lt;have E:=h.tb;have cl:∀{j d m},Cl (Go.Ar.swp A k c ss) j d m->(j=k/\d=c/\m=cF ss)\/(j≠k/\Cl A j d m):=λ{j d m} a=>V6 hk ⟨by rw[←b.tb];exact a.1,by rw[←b.cE];exact a.2⟩;have own:∀p,l6 ((Qc ss).map λs=>(s,c.aF)) p->A.ow p=k+1:=λp g=>by
  obtain⟨x,u,z,B⟩:=GU.1 g;exact(h.jG hk u z B).2
 have cM:(Go.Ar.swp A k c ss).cM=A.cM:=b.cM;have tb:(Go.Ar.swp A k c ss).tb=A.tb:=b.tb;have runs:(Go.Ar.swp A k c ss).runs=A.runs:=b.runs;refine⟨b.pg,by rw[tb];exact h.tb,by rw[b.cE,tb];simp[h.lc],by rw[cM,tb];exact h.lt,λj d m a=>?_,λj d m a s y=>?_,λj d m a p=>?_,λp=>?_,λp=>?_,by rw[runs];exact h.gM,by rw[runs];exact h.kh,by rw[cM];exact h.pn,λj d m t a r=>?_,by rw[cM,tb];exact h.oE⟩
 ·rcases cl a with⟨rfl,rfl,rfl⟩|⟨hne,a⟩
  ·exact w.cF
  ·exact h.cE j d m a
 ·rcases cl a with⟨rfl,rfl,rfl⟩|⟨hne,a⟩
  ·exact h.one _ _ _ hk s (zI.1 y).1
  ·exact h.one j d m a s y
 ·by_cases g:l6 ((Qc ss).map λs=>(s,c.aF)) p
  ·rw[(b.i p g).2];have C:=own p g;rcases cl a with⟨rfl,rfl,rfl⟩|⟨hne,a⟩
   ·rw[Fq w];constructor
    ·intro e;omega
    ·rintro⟨_,hn⟩;exact(hn (GU.1 g)).elim
   ·rw[←h.ow j d m a p,C];omega
  ·rw[(b.o p g).2];rcases cl a with⟨rfl,rfl,rfl⟩|⟨hne,a⟩
   ·rw[Fq w];show A.ow p=_↔_;rw[h.ow _ _ _ hk p];exact⟨λu=>⟨u,λF=>g (GU.2 F)⟩,λu=>u.1⟩
   ·exact h.ow j d m a p
 ·rw[runs];by_cases g:l6 ((Qc ss).map λs=>(s,c.aF)) p
  ·rw[(b.i p g).2,←h.jJ,own p g];omega
  ·rw[(b.o p g).2];exact h.jJ p
 ·rw[tb];by_cases g:l6 ((Qc ss).map λs=>(s,c.aF)) p
  ·rw[(b.i p g).2];omega
  ·rw[(b.o p g).2];exact h.qW p
 ·rw[cM]at r;rcases cl a with⟨rfl,rfl,rfl⟩|⟨hne,a⟩
  ·intro x u;exact(EO w).2 (h.lN _ _ _ t hk r x u)
  ·exact h.lN j d m t a r
theorem GA.Bb (h:GA A)(hk:Cl A k c ss):Kp A (Go.Ar.swp A k c ss):=by
 have b:=h.qv hk;refine⟨b.n,b.tb,b.room,b.z,λp a=>?_⟩;by_cases hi:l6 ((Qc ss).map λs=>(s,c.aF)) p
 ·rw[(b.i p hi).1]at a;omega
 ·rw[(b.o p hi).1]at a;exact a
theorem GA.Bd (h:GA A)(hk:Cl A k c ss){j:Nat}{x:Int}:fP (Go.Ar.swp A k c ss) j x↔fP A j x:=by
 have b:=h.qv hk;have a:=h.cE k c ss hk;have e:fP (Go.Ar.swp A k c ss) j x↔fP {A with cE:=A.cE.set k (cF ss)} j x:=by unfold fP Cl;rw[b.tb,b.cE]
 rw[e,yg hk,EO a];constructor
 ·rintro(⟨rfl,hx⟩|⟨_,hx⟩)
  ·exact(KN hk).2 hx
  ·exact hx
 ·intro hx;by_cases hjk:j=k
  ·subst hjk;exact .inl ⟨rfl,(KN hk).1 hx⟩
  ·exact .inr ⟨hjk,hx⟩
theorem U7 {k:Int}:A.ck k=true↔∃j:Nat,k=j/\j<A.tb.length:=by
 unfold AR.ck;simp only[zF,zU];constructor
 ·intro h;exact⟨k.toNat,O,O⟩
 ·rintro⟨j,rfl,h⟩;omega
structure Ob (A B:AR):Prop where
 ga:GA B
 kp:Kp A B
 runs:B.runs=A.runs
theorem Dg (h:GA A)(k m:Int):Ob A (Yu A k m)/\(Yu A k m).cM=A.cM/\(Yc A k m).Nodup/\(Yc A k m≠[]->∃j:Nat,k=j/\j<A.tb.length)/\(∀x∈Yc A k m,¬fP A k.toNat (x:Int)) ∧
 ∀j y,fP (Yu A k m) j y↔fP A j y\/(j=k.toNat/\∃x∈Yc A k m,y=((x:Nat):Int)):=by
 by_cases h0:Qp A k m=0
 ·have d:A.ck k=true:=by
   unfold Qp at h0;split at h0
   ·assumption
   ·cases h0
  obtain⟨j,rfl,s⟩:=U7.1 d;obtain⟨c,ss,t,b,C⟩:=h.cl s;have r:K0 A (j:Int) m=QT c m.toNat ss:=by unfold K0;rw[dE,b.1,b.2]
  have p:Yu A (j:Int) m = {A with cE:=A.cE.set j (QT c m.toNat ss).2}:=by unfold Yu;rw[zC h0,r,dE]
  have g:Yc A (j:Int) m=(QT c m.toNat ss).1:=by unfold Yc;rw[zC h0,r]
  rw[p,g];obtain⟨s1,s2,D,B,w,u⟩:=Hg m.toNat (h.cE j c ss b);refine⟨⟨h.kG b s1 s2 λz e x a=>(u x).2 (.inr (h.lN j c ss z b e x a)),Kp.aF rfl rfl rfl rfl,rfl⟩,rfl,B,λ_=>⟨j,rfl,s⟩,λx a=>?_,λi y=>?_⟩
  ·rw[dE,KN b];exact w x a
  ·rw[yg b,u,dE];by_cases hij:i=j
   ·subst hij;rw[KN b];constructor
    ·rintro(⟨_,a|a⟩|⟨a,_⟩)
     ·exact .inr ⟨rfl,a⟩
     ·exact .inl a
     ·exact(a rfl).elim
    ·rintro(a|⟨_,a⟩)
     ·exact .inl ⟨rfl,.inr a⟩
     ·exact .inl ⟨rfl,.inl a⟩
   ·constructor
    ·rintro(⟨a,_⟩|⟨_,a⟩)
     ·exact(hij a).elim
     ·exact .inl a
    ·rintro(a|⟨a,_⟩)
     ·exact .inr ⟨hij,a⟩
     ·exact(hij a).elim
 ·have p:Yu A k m=A:=by unfold Yu;rw[zB h0]
  have g:Yc A k m=[]:=by unfold Yc;rw[zB h0]
  rw[p,g];exact⟨⟨h,Kp.refl A,rfl⟩,rfl,tg,by simp,by simp,by simp⟩
theorem CA {xs:List Int}(h:j8 c ss xs):iA c ss xs=0:=by
 unfold iA;have a:xs.any (λx=>(dY c ss x).isNone)=false:=by
  rw[mh];intro x hx;rw[h.1 x hx];simp
 have b:xs.any (λx=>dY c ss x==some false)=false:=by
  rw[mh];intro x hx;rw[h.1 x hx];simp
 rw[a,b,zJ h.2];rfl
theorem Hy (h:GA A)(hk:Cl A k c ss)(xs:List Int):QG A (k:Int) xs=iA c ss xs:=by
 unfold QG;rw[U7.2 ⟨k,rfl,hk.lt⟩,zC rfl,dE,hk.1,hk.2]
theorem GK (h:GA A){k:Int}{xs:List Int}(h0:QG A k xs=0):∃(j:Nat) (c:bZ) (ss:List cG),k=j/\Cl A j c ss/\j8 c ss xs:=by
 have a:A.ck k=true:=by
  unfold QG at h0;split at h0
  ·assumption
  ·cases h0
 obtain⟨j,rfl,d⟩:=U7.1 a;obtain⟨c,ss,t,b,e⟩:=h.cl d;rw[Hy h b]at h0;exact⟨j,c,ss,rfl,b,CS h0⟩
theorem yY (h:GA A){k:Int}{xs:List Int}(hd:QG A k xs=0->∀x∈xs,¬gS A k.toNat x):Ob A (Zr A k xs)/\(Zr A k xs).cM=A.cM ∧
 (QG A k xs=0->∀j y,fP (Zr A k xs) j y↔fP A j y/\¬(j=k.toNat/\y∈xs))/\(QG A k xs≠0->Zr A k xs=A):=by
 by_cases h0:QG A k xs=0
 ·obtain⟨j,c,g,rfl,e,B⟩:=GK h h0;obtain⟨C,w,s⟩:=E4 xs (h.cE j c g e) B;have p:=h.kG e C w λt u x a=>(s x).2 ⟨h.lN j c g t e u x a,λz=>hd h0 x z ⟨t,by rw[dE];exact u,a⟩⟩;have d:=UG e (xs.foldl (fF c) g);have r:Zr A (j:Int) xs=swp {A with cE:=A.cE.set j (xs.foldl (fF c) g)} j c (xs.foldl (fF c) g):=by
   unfold Zr swp;rw[zC h0,dE,e.1,e.2];simp only[ni]
  have b:=p.qv d;rw[r];refine⟨⟨p.swp d,(Kp.aF rfl rfl rfl rfl:Kp A {A with cE:=A.cE.set j (xs.foldl (fF c) g)}).trans (p.Bb d),b.runs⟩,b.cM,λ_ i y=>?_,λD=>(D h0).elim⟩;rw[p.Bd d,yg e,s,dE];by_cases hij:i=j
  ·subst hij;rw[KN e];constructor
   ·rintro(⟨_,a,hy⟩|⟨a,_⟩)
    ·exact⟨a,λm=>hy m.2⟩
    ·exact(a rfl).elim
   ·rintro⟨a,hy⟩;exact .inl ⟨rfl,a,λm=>hy ⟨rfl,m⟩⟩
  ·constructor
   ·rintro(⟨a,_⟩|⟨_,a⟩)
    ·exact(hij a).elim
    ·exact⟨a,λm=>hij m.1⟩
   ·rintro⟨a,_⟩;exact .inr ⟨hij,a⟩
 ·have r:Zr A k xs=A:=by unfold Zr;rw[zB h0]
  rw[r];exact⟨⟨h,Kp.refl A,rfl⟩,rfl,λa=>(h0 a).elim,λ_=>rfl⟩
theorem GA.jR (h:GA A){k:Nat}{t':gE}(h1:t'.bs.flatten.Nodup)(h2:∀x∈t'.bs.flatten,fP A k x)(h3:∀c,A.tb[k]?=some c->∀xs∈t'.bs,xs.length=c.batch):GA {A with cM:=A.cM.set k t'}:=by
 have get:∀{j t},(A.cM.set k t')[j]?=some t->(j=k/\t=t')\/(j≠k/\A.cM[j]?=some t):=by
  intro j t a;by_cases hjk:j=k
  ·subst hjk;have g:j<A.cM.length:=by have:=(cW.1 a).1;simpa using this
   rw[zL g]at a;exact .inl ⟨rfl,(Option.some.inj a).symm⟩
  ·rw[zk (Ne.symm hjk)]at a;exact .inr ⟨hjk,a⟩
 refine⟨h.pg.same rfl rfl rfl rfl,h.tb,h.lc,by simp[h.lt],h.cE,h.one,h.ow,h.jJ,h.qW,h.gM,h.kh,λj t a=>?_,λj c e t b a x d=>?_,λj c t b a=>?_⟩
 ·rcases get a with⟨rfl,rfl⟩|⟨_,a⟩
  ·exact h1
  ·exact h.pn j t a
 ·rcases get a with⟨rfl,rfl⟩|⟨_,a⟩
  ·exact(KN b).1 (h2 x d)
  ·exact h.lN j c e t b a x d
 ·rcases get a with⟨rfl,rfl⟩|⟨_,a⟩
  ·exact h3 c b
  ·exact h.oE j c t b a
theorem xF {t':gE}{j:Nat}{x:Int}(hk:k<A.cM.length):gS {A with cM:=A.cM.set k t'} j x↔(j=k/\x∈t'.bs.flatten)\/(j≠k/\gS A j x):=by
 by_cases hjk:j=k
 ·subst hjk;have a:(A.cM.set j t')[j]?=some t':=zL hk;constructor
  ·rintro⟨t,e,hx⟩;have e:(A.cM.set j t')[j]?=some t:=e;rw[a]at e;cases e;exact .inl ⟨rfl,hx⟩
  ·rintro(⟨_,hx⟩|⟨hx,_⟩)
   ·exact⟨_,a,hx⟩
   ·exact(hx rfl).elim
 ·have a:(A.cM.set k t')[j]?=A.cM[j]? := zk (Ne.symm hjk);constructor
  ·rintro⟨t,e,hx⟩;have e:(A.cM.set k t')[j]?=some t:=e;rw[a]at e;exact .inr ⟨hjk,t,e,hx⟩
  ·rintro(⟨hx,_⟩|⟨_,t,e,hx⟩)
   ·exact(hjk hx).elim
   ·exact⟨t,a.trans e,hx⟩
theorem Hb {t:gE}(ht:A.cM[k]?=some t){x:Int}:gS A k x↔x∈t.bs.flatten:=by
 constructor
 ·rintro⟨t',e,hx⟩;rw[ht]at e;cases e;exact hx
 ·intro hx;exact⟨t,ht,hx⟩
theorem DA (h:GA A)(k:Int):Ob A (Zt A k)/\(∀j y,fP (Zt A k) j y↔fP A j y)/\(∀x∈Ys A k,gS A k.toNat x)/\(Ys A k).Nodup/\(Ys A k≠[]->∃j:Nat,k=j/\j<A.tb.length) ∧
 ∀j y,gS (Zt A k) j y↔gS A j y/\¬(j=k.toNat/\y∈Ys A k):=by
 by_cases h0:ZV A k=0
 ·have s:A.ck k=true:=by
   unfold ZV at h0;split at h0
   ·assumption
   ·cases h0
  obtain⟨j,rfl,B⟩:=U7.1 s;obtain⟨c,F,t,E,g⟩:=h.cl B;have hne:t.bs≠[]:=by
   intro e;unfold ZV at h0;rw[s,zC rfl,dE,g]at h0;simp[e]at h0
  have z:Zt A (j:Int) = {A with cM:=A.cM.set j t.rem}:=by unfold Zt;rw[zC h0,dE,KI g]
  have D:Ys A (j:Int)=t.bs.getLast?.getD []:=by unfold Ys;rw[zC h0,dE,g]
  have w:t.bs=t.bs.dropLast++[t.bs.getLast hne]:=(List.dropLast_concat_getLast hne).symm;have J:Ys A (j:Int)=t.bs.getLast hne:=by rw[D,List.getLast?_eq_some_getLast hne];rfl
  have d:t.bs.flatten=t.bs.dropLast.flatten++t.bs.getLast hne:=by
   conv=>lhs;rw[w]
   simp
  have r:=h.pn j t g;rw[d]at r;have b:=nt.1 r;have m:t.rem.bs=t.bs.dropLast:=rfl;rw[z,J];refine⟨⟨h.jR (by rw[m];exact b.1) (λx a=>(KN E).2 (h.lN j c F t E g x (by rw[d];exact ke _ a))) λG u H C=>h.oE j G t u g H ((List.dropLast_sublist _).subset C),Kp.aF rfl rfl rfl rfl,rfl⟩,λ_ _=>Iff.rfl,λx a=>?_,b.2.1,λ_=>⟨j,rfl,B⟩,λi y=>?_⟩
  ·rw[dE,Hb g,d];exact nI _ a
  ·rw[xF (by rw[h.lt];exact B),m,dE];by_cases hij:i=j
   ·subst hij;rw[Hb g,d,zK];constructor
    ·rintro(⟨_,a⟩|⟨a,_⟩)
     ·exact⟨.inl a,λp=>b.2.2 y a y p.2 rfl⟩
     ·exact(a rfl).elim
    ·rintro⟨a|a,p⟩
     ·exact .inl ⟨rfl,a⟩
     ·exact(p ⟨rfl,a⟩).elim
   ·constructor
    ·rintro(⟨a,_⟩|⟨_,a⟩)
     ·exact(hij a).elim
     ·exact⟨a,λp=>hij p.1⟩
    ·rintro⟨a,_⟩;exact .inr ⟨hij,a⟩
 ·have z:Zt A k=A:=by unfold Zt;rw[zB h0]
  have D:Ys A k=[]:=by unfold Ys;rw[zB h0]
  rw[z,D];exact⟨⟨h,Kp.refl A,rfl⟩,λ_ _=>Iff.rfl,by simp,tg,by simp,by simp⟩
theorem Py (h:GA A)(k:Int){xs:List Int}(hn:xs.Nodup)(hd:∀x∈xs,¬gS A k.toNat x):Ob A (QR A k xs)/\(∀j y,fP (QR A k xs) j y↔fP A j y) ∧
 (KU A k xs=true->(∃j:Nat,k=j/\j<A.tb.length)/\(∀x∈xs,fP A k.toNat x)/\∀j y,gS (QR A k xs) j y↔gS A j y\/(j=k.toNat/\y∈xs))/\(KU A k xs=false->QR A k xs=A):=by
 by_cases h0:KU A k xs=true
 ·have B:UT A k xs=0:=by
   unfold KU at h0;simp only[zF,zU]at h0;exact h0.1
  have z:A.ck k=true:=by
   unfold UT at B;split at B
   ·assumption
   ·cases B
  obtain⟨j,rfl,D⟩:=U7.1 z;obtain⟨c,F,t,s,u⟩:=h.cl D;have m:=B;unfold UT at m;rw[z,zC rfl,dE,s.1,s.2]at m;simp only at m;have p:xs.length=c.batch:=by
   apply Classical.byContradiction;intro d;rw[zB d]at m;cases m
  rw[zC p]at m;have w:∀x∈xs,fP A j x:=by
   intro x d;split at m
   ·rename_i C;rw[jW]at C;rw[KN s];simpa[Tk]using C x d
   ·cases m
  have E:QR A (j:Int) xs = {A with cM:=A.cM.set j {t with bs:=t.bs++[xs]}}:=by unfold QR;rw[zC h0,dE,KI u]
  have r:(t.bs++[xs]).flatten=t.bs.flatten++xs:=by simp
  rw[E];refine⟨⟨h.jR ?_ ?_ ?_,Kp.aF rfl rfl rfl rfl,rfl⟩,λ_ _=>Iff.rfl,λ_=>⟨⟨j,rfl,D⟩,by rw[dE];exact w,λi y=>?_⟩,λG=>by rw[G]at h0;cases h0⟩
  ·show(t.bs++[xs]).flatten.Nodup;rw[r,nt];exact⟨h.pn j t u,hn,λa C b H e=>hd b H (by subst e;rw[dE,Hb u];exact C)⟩
  ·intro x d;have d:x∈(t.bs++[xs]).flatten:=d;rw[r,zK]at d;rcases d with d|d
   ·exact(KN s).2 (h.lN j c F t s u x d)
   ·exact w x d
  ·intro c' hc' ys g;have g:ys∈t.bs++[xs]:=g;rcases zK.1 g with g|g
   ·exact h.oE j c' t hc' u ys g
   ·simp only[zN]at g;rw[s.1]at hc';cases hc';rw[g];exact p
  ·rw[xF (by rw[h.lt];exact D),dE];show(i=j/\y∈(t.bs++[xs]).flatten)\/_↔_;rw[r,zK];by_cases hij:i=j
   ·subst hij;rw[Hb u];constructor
    ·rintro(⟨_,d|d⟩|⟨d,_⟩)
     ·exact .inl d
     ·exact .inr ⟨rfl,d⟩
     ·exact(d rfl).elim
    ·rintro(d|⟨_,d⟩)
     ·exact .inl ⟨rfl,.inl d⟩
     ·exact .inl ⟨rfl,.inr d⟩
   ·constructor
    ·rintro(⟨d,_⟩|⟨_,d⟩)
     ·exact(hij d).elim
     ·exact .inl d
    ·rintro(d|⟨d,_⟩)
     ·exact .inr ⟨hij,d⟩
     ·exact(hij d).elim
 ·have E:QR A k xs=A:=by unfold QR;rw[zB h0]
  rw[E];exact⟨⟨h,Kp.refl A,rfl⟩,λ_ _=>Iff.rfl,λd=>(h0 d).elim,λ_=>rfl⟩
end Go.Ar
namespace Go.Ar
open Go.Bu (Zb Qx Y8 oY KQ dD take QZ Kq Bounded full can Yv Ul Zu QD ZD Q0 Qy ZZ VA UE kU)
variable {A:AR}{sp:Sp}{k:Nat}{c:bZ}{ss:List cG}
structure Ow (A:AR) (sp:Sp):Prop where
 l:sp.st.length=A.n
 own:∀p,A.f p≠0->gf sp.st p≠0
 cl:∀p,A.f p=3->gf sp.st p=1
 le:∀p,gf sp.st p<=2
structure St (A B:AR) (sp sp':Sp):Prop where
 ga:GA B
 ow:Ow B sp'
 n:B.n=A.n
 tb:B.tb=A.tb
 room:B.room=A.room
 same:∀p,A.f p=0->B.f p=0->gf sp'.st p=gf sp.st p
 gone:∀p,A.f p≠0->B.f p=0->gf sp'.st p=0
 new:∀p,A.f p=0->B.f p≠0->gf sp.st p=0/\16<=p
theorem St.refl (h:GA A)(hw:Ow A sp):St A A sp sp:=⟨h,hw,rfl,rfl,rfl,λ_ _ _=>rfl,λp a b=>(a b).elim,λp a b=>(b a).elim⟩
theorem Ow.len {B C:AR}{sp sp':Sp}(h:Ow B sp)(k:Ow C sp')(e:C.n=B.n):sp'.st.length=sp.st.length:=by rw[h.l,k.l,e]
theorem St.trans {B C:AR}{sp' sp'':Sp}(h:St A B sp sp')(k:St B C sp' sp''):St A C sp sp'':=by
 refine⟨k.ga,k.ow,k.n.trans h.n,k.tb.trans h.tb,k.room.trans h.room,λp a b=>?_,λp a b=>?_,λp a b=>?_⟩
 ·by_cases hB:B.f p=0
  ·rw[k.same p hB b,h.same p a hB]
  ·rw[k.gone p hB b,(h.new p a hB).1]
 ·by_cases hB:B.f p=0
  ·rw[k.same p hB b,h.gone p a hB]
  ·exact k.gone p hB b
 ·by_cases hB:B.f p=0
  ·have:=k.new p hB b;rw[h.same p a hB]at this;exact this
  ·exact h.new p a hB
theorem Ow.kp {B:AR}(hw:Ow A sp)(h:Kp A B):Ow B sp:=⟨hw.l.trans h.n.symm,λp a=>hw.own p λe=>a ((h.z p).2 e),λp a=>hw.cl p (h.t p a),hw.le⟩
theorem St.kp {B:AR}(hg:GA B)(hw:Ow A sp)(h:Kp A B):St A B sp sp:=
 ⟨hg,hw.kp h,h.n,h.tb,h.room,λ_ _ _=>rfl,λp a b=>(a ((h.z p).1 b)).elim,λp a b=>(b ((h.z p).2 a)).elim⟩
theorem Ob.st {B:AR}(o:Ob A B)(hw:Ow A sp):St A B sp sp:=St.kp o.ga hw o.kp
theorem GA.grown (h:GA A){B:AR}{sp':Sp}{s size:Nat}(g:Grown A B sp sp' s size):GA B:=by
 have e:∀{j d tt},Cl B j d tt↔Cl A j d tt:=λ{j d tt}=>by unfold Cl;rw[g.tb,g.cE]
 exact⟨g.pg,by rw[g.tb];exact h.tb,by rw[g.cE,g.tb];exact h.lc,by rw[g.cM,g.tb];exact h.lt,λj d tt a=>h.cE j d tt (e.1 a),λj d tt a=>h.one j d tt (e.1 a),λj d tt a p=>by rw[g.ow];exact h.ow j d tt (e.1 a) p,
  λp=>by rw[g.ow,g.runs];exact h.jJ p,λp=>by rw[g.ow,g.tb];exact h.qW p,by rw[g.runs];exact h.gM,by rw[g.runs];exact h.kh,by rw[g.cM];exact h.pn,λj d tt t a b=>h.lN j d tt t (e.1 a) (by rw[←g.cM];exact b),by rw[g.tb,g.cM];exact h.oE⟩
theorem Grown.st (h:GA A)(hw:Ow A sp){B:AR}{sp':Sp}{s size:Nat}(g:Grown A B sp sp' s size):St A B sp sp':=by
 have d:∀p,B.f p≠A.f p->s<=p/\p<s+size:=λp b=>by
  apply Classical.byContradiction;intro hn;exact b (g.o p hn).1
 refine⟨h.grown g,⟨g.l.trans (hw.l.trans g.n.symm),λp b=>?_,λp b=>?_,λp=>?_⟩,g.n,g.tb,g.room,λp j e=>?_,λp j e=>?_,λp j e=>?_⟩
 ·by_cases a:s<=p/\p<s+size
  ·rw[(g.i p a.1 a.2).2];omega
  ·rw[(g.o p a).2];rw[(g.o p a).1]at b;exact hw.own p b
 ·by_cases a:s<=p/\p<s+size
  ·rw[(g.i p a.1 a.2).2]
  ·rw[(g.o p a).2];rw[(g.o p a).1]at b;exact hw.cl p b
 ·by_cases a:s<=p/\p<s+size
  ·rw[(g.i p a.1 a.2).2];omega
  ·rw[(g.o p a).2];exact hw.le p
 ·refine(g.o p λa=>?_).2;rw[(g.i p a.1 a.2).1]at e;omega
 ·have:=d p O;rw[(g.i p this.1 this.2).1]at e;omega
 ·have:=d p O;exact⟨g.un p this.1 this.2,by have:=g.s1;omega⟩
theorem Nm {n:Nat}{S:Nat->Bool}(hb:Bounded S n)(hn:n<=1024){j q m a:Nat}(hf:full S j q=true)(hm:m<=2^j)(ha:a<=2^j):Y8 n S m a≠none:=by
 intro h0;have r:S (q*2^j)=true:=Yv.1 hf _ (yE _ (kF j));obtain⟨i,g⟩:=Ul hb r;have e:j<=i:=by
  apply Classical.byContradiction;intro hlt;exact QD g hf rfl (yE _ (kF j)) O
 have s:=ZD hb (Zu.1 g).1;have d:i<11:=by
  apply Classical.byContradiction;intro hge;have:2^11<=2^i:=oe O O;omega
 have p:2^j<=2^i:=oe O e;have:=UE h0 i d O O;have b:=(Qy hb (k:=i)).2 ⟨_,rfl,g⟩;rw[this]at b;simp at b
theorem yV (m:Nat):QO m=16\/QO m=32\/QO m=64:=by
 unfold QO;split
 ·exact .inl rfl
 ·split
  ·exact .inr (.inl rfl)
  ·exact .inr (.inr rfl)
theorem PM {m:Nat}(h:m<=64):m<=QO m:=by
 unfold QO;split
 ·omega
 ·split<;>omega
theorem Ek (h:GA A)(hw:Ow A sp){m a no:Nat}(h1:1<=m)(h2:m<=64)(ha:1<=a/\a<=16) :
 (cZ A sp m a no=(none,A,sp)/\Y8 A.n A.S m a=none/\cY sp (QO (max m a))=none) ∨
 ∃x A1 sp1,cZ A sp m a no=(some x,dO A1 x m no,sp1)/\Y8 A1.n A1.S m a=some x/\(A1=A/\sp1=sp\/Y8 A.n A.S m a=none/\∃s,cY sp (QO (max m a))=some s/\Grown A A1 sp sp1 s (QO (max m a))):=by
 cases ht:Y8 A.n A.S m a with
 | some x=>exact .inr ⟨x,A,sp,by unfold cZ;rw[ht],ht,.inl ⟨rfl,rfl⟩⟩
 | none=>
  cases hg:Ut A sp (QO (max m a))with
  | none=>
   refine .inl ⟨by unfold cZ;rw[ht,hg],rfl,?_⟩;unfold Ut at hg;split at hg
   ·assumption
   ·cases hg
  | some r=>
   obtain⟨A1,sp1⟩:=r;obtain⟨s,u,g⟩:=JM h.pg hw.l (λp b=>Classical.byContradiction λB=>hw.own p B b) (yV _) hg;have d:Y8 A1.n A1.S m a≠none:=by
    have y:=PM (m:=max m a) O;obtain⟨_,_,⟨i,C⟩,_⟩:=Uw (by have:=yV (max m a);omega) u;have key:∃j,QO (max m a)=2^j:=by
     rcases yV (max m a)with e|e|e
     ·exact⟨4,e⟩
     ·exact⟨5,e⟩
     ·exact⟨6,e⟩
    obtain⟨j,z⟩:=key;refine Nm g.pg.jo g.pg.n2 (j:=j) (q:=i) (Yv.2 λp b=>?_) O O;rw[g.pg.fr];rw[ZZ,←z,←C]at b;rw[(g.i p b.1 b.2).1];omega
   obtain⟨x,w⟩:=Option.ne_none_iff_exists'.1 d;exact .inr ⟨x,A1,sp1,by unfold cZ;rw[ht,hg];simp only;rw[w],w,.inr ⟨rfl,s,u,g⟩⟩
theorem CJ (h:PG A){m a x:Nat}(hx:Y8 A.n A.S m a=some x):∀p,x<=p->p<x+m->A.S p=true:=λp b d=>(kU h.jo hx).2 p b d
theorem F4 (h:PG A){m a x:Nat}(h1:1<=m)(h4:m<=4)(hx:Y8 A.n A.S m a=some x):x/16=(x+m-1)/16:=by
 obtain⟨j,_,b,_,d,_⟩:=VA hx;obtain⟨q,rfl,g⟩:=(Qy h.jo).1 (List.mem_of_head? d)
 match j,b with
 | 0,b=>
  have:m=1:=by omega
  subst this;rfl
 | 1,b=>
  have:m<=2:=by omega
  simp only[Nat.pow_one]at *;omega
 | j+2,b=>
  have e:2^(j+2)=4*2^j:=by rw[Nat.pow_add];omega
  rw[e,←wm,Nat.mul_comm q 4,wm];generalize q*2^j=z;omega
theorem C6 (h:PG A){a m no:Nat}(h1:1<=m)(hn:no≠0)(hS:∀p,a<=p->p<a+m->A.S p=true):Kp A (dO A a m no):=by
 obtain⟨o,g,e,d⟩:=Ai h h1 hn hS;refine⟨rfl,rfl,rfl,d,λp b=>?_⟩;by_cases hin:a<=p/\p<a+m
 ·rw[(g p hin.1 hin.2).1]at b;omega
 ·rw[o.f p hin]at b;exact b
theorem GA.pL (h:GA A)(hk:Cl A k c ss){x:Nat}(hS:∀p,x<=p->p<x+c.aF->A.S p=true)(h1:x/16=(x+c.aF-1)/16) :
 GA {dO A x c.aF (k+1)with cE:=(dO A x c.aF (k+1)).cE.set k (ie c ss x)}/\(∀s∈ss,s.st+c.aF<=x\/x+c.aF<=s.st):=by
 have r:=h.cE k c ss hk;have m:=r.pg;have B:=hk.lt;have C:=h.tb;obtain⟨o,i,pg,F⟩:=Ai h.pg m (no:=k+1) O hS;have u:∀p,x<=p->p<x+c.aF->A.ow p=0:=λp E D=>by
  have z:=(h.pg.fr p).1 (hS p E D);apply Classical.byContradiction;intro hne;have:=(h.pg.us p).2 hne;omega
 have hd:∀s∈ss,s.st+c.aF<=x\/x+c.aF<=s.st:=λs b=>by
  apply Classical.byContradiction;intro hn;have z:=u (max x s.st) O O;have:=(h.used hk b (p:=max x s.st) O O).2;omega
 refine⟨?_,hd⟩;have e:Cl (dO A x c.aF (k+1)) k c ss:=hk;refine⟨pg.same rfl rfl rfl rfl,h.tb,by show(A.cE.set k _).length=_;simp[h.lc];rfl,h.lt,λj d g a=>?_,λj d g a s b=>?_,λj d g a p=>?_,λp=>?_,λp=>?_,h.gM,h.kh,h.pn,λj d g t a w=>?_,h.oE⟩
 ·rcases V6 e a with⟨rfl,rfl,rfl⟩|⟨hne,a⟩
  ·exact Ce r hd
  ·exact h.cE j d g a
 ·rcases V6 e a with⟨rfl,rfl,rfl⟩|⟨hne,a⟩
  ·rcases Va.1 b with rfl|b
   ·exact h1
   ·exact h.one _ _ _ hk s b
  ·exact h.one j d g a s b
 ·show(dO A x c.aF (k+1)).ow p=j+1↔_;by_cases hp:x<=p/\p<x+c.aF
  ·rw[(i p hp.1 hp.2).2];rcases V6 e a with⟨rfl,rfl,rfl⟩|⟨hne,a⟩
   ·exact⟨λ_=>⟨_,Va.2 (.inl rfl),hp.1,hp.2⟩,λ_=>rfl⟩
   ·rw[←h.ow j d g a p,u p hp.1 hp.2];omega
  ·rw[o.ow p hp];rcases V6 e a with⟨rfl,rfl,rfl⟩|⟨hne,a⟩
   ·rw[h.ow _ _ _ hk p];constructor
    ·rintro⟨s,b,h3⟩;exact⟨s,Va.2 (.inr b),h3⟩
    ·rintro⟨s,b,h3⟩;rcases Va.1 b with rfl|b
     ·exact(hp h3).elim
     ·exact⟨s,b,h3⟩
   ·exact h.ow j d g a p
 ·show(dO A x c.aF (k+1)).ow p=41↔l6 A.runs p;by_cases hp:x<=p/\p<x+c.aF
  ·rw[(i p hp.1 hp.2).2,←h.jJ,u p hp.1 hp.2];omega
  ·rw[o.ow p hp];exact h.jJ p
 ·show(dO A x c.aF (k+1)).ow p=41\/(dO A x c.aF (k+1)).ow p<=A.tb.length;by_cases hp:x<=p/\p<x+c.aF
  ·rw[(i p hp.1 hp.2).2];omega
  ·rw[o.ow p hp];exact h.qW p
 ·rcases V6 e a with⟨rfl,rfl,rfl⟩|⟨hne,a⟩
  ·intro y hy;exact(CL r hd).2 (h.lN _ _ _ t hk w y hy)
  ·exact h.lN j d g t a w
theorem GA.sv (h:GA A){x m:Nat}(hm:1<=m)(hS:∀p,x<=p->p<x+m->A.S p=true):GA {dO A x m 41 with runs:=A.runs++[(x,m)]}:=by
 have w:=h.tb;obtain⟨o,e,pg,B⟩:=Ai h.pg hm (no:=41) O hS;have i:∀p,x<=p->p<x+m->A.ow p=0:=λp z y=>by
  have u:=(h.pg.fr p).1 (hS p z y);apply Classical.byContradiction;intro hne;have:=(h.pg.us p).2 hne;omega
 refine⟨pg.same rfl rfl rfl rfl,h.tb,h.lc,h.lt,h.cE,h.one,λj d tt b p=>?_,λp=>?_,λp=>?_,λr a=>?_,?_,h.pn,h.lN,h.oE⟩
 ·have b:Cl A j d tt:=b;have:=b.lt;show(dO A x m 41).ow p=j+1↔_;by_cases hp:x<=p/\p<x+m
  ·rw[(e p hp.1 hp.2).2,←h.ow j d tt b p,i p hp.1 hp.2];omega
  ·rw[o.ow p hp];exact h.ow j d tt b p
 ·show(dO A x m 41).ow p=41↔l6 (A.runs++[(x,m)]) p;by_cases hp:x<=p/\p<x+m
  ·rw[(e p hp.1 hp.2).2];exact⟨λ_=>⟨(x,m),by simp,hp⟩,λ_=>rfl⟩
  ·rw[o.ow p hp,h.jJ];constructor
   ·rintro⟨r,a,h3⟩;exact⟨r,by simp[a],h3⟩
   ·rintro⟨r,a,h3⟩;rcases zK.1 a with a|a
    ·exact⟨r,a,h3⟩
    ·simp only[zN]at a;subst a;exact(hp h3).elim
 ·show(dO A x m 41).ow p=41\/(dO A x m 41).ow p<=A.tb.length;by_cases hp:x<=p/\p<x+m
  ·rw[(e p hp.1 hp.2).2];omega
  ·rw[o.ow p hp];exact h.qW p
 ·rcases zK.1 a with a|a
  ·exact h.gM r a
  ·simp only[zN]at a;subst a;exact hm
 ·refine px.2 ⟨h.kh,by simp,λr a s g=>?_⟩;simp only[zN]at g;subst g;apply Classical.byContradiction;intro hn;simp only at hn;have:=h.gM r a;have u:=i (max x r.1) O O;have:=(h.jj a (p:=max x r.1) O O).2;omega
theorem L7 {l:List (Nat×Nat)}{x m:Nat}(h:∀r∈l,r.1≠x):cA.mset2 l x m=l++[(x,m)]:=by
 unfold cA.mset2;rw[zB];simp only[j9,zS,not_exists,not_and];exact h
theorem GQ (h:GA A)(hw:Ow A sp)(k:Int) :
 ((cL A sp k=(A,sp))/\KD A sp k≠0/\(A.ck k=true->KD A sp k=6)) ∨
 ∃(j:Nat) (c:bZ) (ss:List cG) (x:Nat) (A1:AR) (sp1:Sp),k=j/\Cl A j c ss/\Cl A1 j c ss/\KD A sp k=0/\cL A sp k=({dO A1 x c.aF (j+1)with cE:=(dO A1 x c.aF (j+1)).cE.set j (ie c ss x)},sp1) ∧
  St A A1 sp sp1/\A1.runs=A.runs/\A1.cM=A.cM/\A1.cE=A.cE/\Y8 A1.n A1.S c.aF 1=some x/\(∀s∈ss,s.st+c.aF<=x\/x+c.aF<=s.st)/\St A (cL A sp k).1 sp (cL A sp k).2:=by
 by_cases hck:A.ck k=true
 ·obtain⟨j,rfl,C⟩:=U7.1 hck;obtain⟨c,ss,t,b,H⟩:=h.cl C;have E:=h.cE j c ss b;have y:=E.ok;unfold bZ.ok at y;have D:=b.lt;rcases Ek h hw (m:=c.aF) (a:=1) (no:=j+1) O O O with⟨hg,_⟩|⟨x,A1,sp1,hg,htk,hor⟩
  ·left;have w:KD A sp (j:Int)=6:=by unfold KD;rw[hck,zC rfl,dE,b.1,b.2];simp only;rw[hg]
   have G:cL A sp (j:Int)=(A,sp):=by unfold cL;rw[hck,zC rfl,dE,b.1,b.2];simp only;rw[hg]
   rw[G,w];exact⟨rfl,by simp,λ_=>rfl⟩
  ·right;have w:KD A sp (j:Int)=HX c ss x:=by unfold KD;rw[hck,zC rfl,dE,b.1,b.2];simp only;rw[hg]
   have u:GA A1:=by
    rcases hor with⟨rfl,rfl⟩|⟨_,s,_,g⟩
    ·exact h
    ·exact h.grown g
   have d:St A A1 sp sp1:=by
    rcases hor with⟨rfl,rfl⟩|⟨_,s,_,g⟩
    ·exact St.refl h hw
    ·exact g.st h hw
   have e:A1.runs=A.runs/\A1.cM=A.cM/\A1.cE=A.cE:=by
    rcases hor with⟨rfl,rfl⟩|⟨_,s,_,g⟩
    ·exact⟨rfl,rfl,rfl⟩
    ·exact⟨g.runs,g.cM,g.cE⟩
   have p:Cl A1 j c ss:=⟨by rw[d.tb];exact b.1,by rw[e.2.2];exact b.2⟩;have z:=CJ u.pg htk;obtain⟨F,hd⟩:=u.pL p z (F4 u.pg O O htk);have B:=LK hd;have i:cL A sp (j:Int)=({dO A1 x c.aF (j+1)with cE:=(dO A1 x c.aF (j+1)).cE.set j (ie c ss x)},sp1):=by
    unfold cL;rw[hck,zC rfl,dE,b.1,b.2];simp only;rw[hg];simp only;rw[zC B]
   refine⟨j,c,ss,x,A1,sp1,rfl,b,p,by rw[w];exact B,i,d,e.1,e.2.1,e.2.2,htk,hd,?_⟩;rw[i];have kp:=C6 u.pg (no:=j+1) O O z;exact d.trans (St.kp F d.ow (kp.trans (Kp.aF rfl rfl rfl rfl)))
 ·left;have r:A.ck k=false:=by simpa using hck
  unfold cL KD;rw[r];exact⟨rfl,by simp,λh=>by cases h⟩
theorem IY (h:GA A)(hw:Ow A sp)(k:Int):St A (cL A sp k).1 sp (cL A sp k).2/\(cL A sp k).1.runs=A.runs/\(cL A sp k).1.cM=A.cM/\(∀j y,fP (cL A sp k).1 j y↔fP A j y)/\(KD A sp k≠0->cL A sp k=(A,sp)):=by
 rcases GQ h hw k with⟨e,_⟩|⟨j,c,ss,x,A1,sp1,rfl,hk,hk1,hE,e,hst,r1,r2,r3,_,hd,hS⟩
 ·rw[e];exact⟨St.refl h hw,rfl,rfl,λ_ _=>Iff.rfl,λ_=>rfl⟩
 ·refine⟨hS,by rw[e];exact r1,by rw[e];exact r2,λi y=>?_,λd=>(d hE).elim⟩;rw[e];have b:Cl (dO A1 x c.aF (j+1)) j c ss:=hk1;rw[yg b,CL (h.cE j c ss hk) hd];have e2:fP (dO A1 x c.aF (j+1)) i y↔fP A i y:=by
   have:(dO A1 x c.aF (j+1)).tb=A.tb/\(dO A1 x c.aF (j+1)).cE=A.cE:=⟨hst.tb,r3⟩;unfold fP Cl;rw[this.1,this.2]
  rw[e2];by_cases hij:i=j
  ·subst hij;rw[KN hk];exact⟨λa=>by rcases a with⟨_,a⟩|⟨a,_⟩;exact a;exact(a rfl).elim,λa=>.inl ⟨rfl,a⟩⟩
  ·exact⟨λa=>by rcases a with⟨a,_⟩|⟨_,a⟩;exact(hij a).elim;exact a,λa=>.inr ⟨hij,a⟩⟩
theorem IA {m a:Int}(h:Q5 m a=true):∃x y:Nat,m=x/\a=y/\1<=x/\x<=64/\(y=1\/y=2\/y=4\/y=8\/y=16):=by
 unfold Q5 at h;simp only[zF,zU,nm,zS]at h;exact⟨m.toNat,a.toNat,O,O,O,O,O⟩
theorem Nd (h:GA A)(hw:Ow A sp)(m a:Int) :
 (cA A sp m a=(A,sp)/\Qg A sp m a≠0/\(Q5 m a=true->Qg A sp m a=6/\Y8 A.n A.S m.toNat a.toNat=none/\cY sp (QO (max m.toNat a.toNat))=none)) ∨
 ∃(x:Nat) (A1:AR) (sp1:Sp),Q5 m a=true/\Qg A sp m a=0/\ZT A sp m a=x/\cA A sp m a=({dO A1 x m.toNat 41 with runs:=A.runs++[(x,m.toNat)]},sp1) ∧
  Y8 A1.n A1.S m.toNat a.toNat=some x/\(A1=A/\sp1=sp\/Y8 A.n A.S m.toNat a.toNat=none/\∃s,cY sp (QO (max m.toNat a.toNat))=some s/\Grown A A1 sp sp1 s (QO (max m.toNat a.toNat))) ∧
  St A (cA A sp m a).1 sp (cA A sp m a).2/\(cA A sp m a).1.cM=A.cM/\(∀j y,fP (cA A sp m a).1 j y↔fP A j y):=by
 by_cases hp:Q5 m a=true
 ·obtain⟨b,w,rfl,rfl,H,J,P⟩:=IA hp;have F:Qg A sp (b:Int) (w:Int)=if(cZ A sp b w 41).1.isSome then 0 else 6:=by unfold Qg;rw[zC hp,dE,dE]
  have M:ZT A sp (b:Int) (w:Int)=(cZ A sp b w 41).1.getD 0:=by unfold ZT;rw[zC hp,dE,dE]
  rcases Ek h hw (m:=b) (a:=w) (no:=41) H J O with⟨hg,hn1,hn2⟩|⟨x,A1,sp1,hg,htk,hor⟩
  ·left;have N:cA A sp (b:Int) (w:Int)=(A,sp):=by unfold cA;rw[zC hp,dE,dE,hg]
   rw[N,F,hg,dE,dE];exact⟨rfl,by simp,λ_=>⟨rfl,hn1,hn2⟩⟩
  ·right;have z:GA A1:=by
    rcases hor with⟨rfl,rfl⟩|⟨_,s,_,g⟩
    ·exact h
    ·exact h.grown g
   have u:St A A1 sp sp1:=by
    rcases hor with⟨rfl,rfl⟩|⟨_,s,_,g⟩
    ·exact St.refl h hw
    ·exact g.st h hw
   have d:A1.runs=A.runs/\A1.cM=A.cM/\A1.cE=A.cE:=by
    rcases hor with⟨rfl,rfl⟩|⟨_,s,_,g⟩
    ·exact⟨rfl,rfl,rfl⟩
    ·exact⟨g.runs,g.cM,g.cE⟩
   have D:=CJ z.pg htk;have C:∀r∈A.runs,r.1≠x:=λr K e=>by
    have B:r∈A1.runs:=by rw[d.1];exact K
    have:=z.gM r B;have Q:=(z.jj B (p:=x) O O).1;have R:=(z.pg.fr x).1 (D x O O);omega
   have i:cA A sp (b:Int) (w:Int)=({dO A1 x b 41 with runs:=A.runs++[(x,b)]},sp1):=by
    unfold cA;rw[zC hp,dE,dE,hg];show({dO A1 x b 41 with runs:=cA.mset2 A1.runs x b},sp1)=_;rw[d.1,L7 C]
   have G:=z.sv O D;rw[d.1]at G;have kp:=C6 z.pg (no:=41) O O D;refine⟨x,A1,sp1,hp,by rw[F,hg];rfl,by rw[M,hg];rfl,by rw[dE];exact i,by rw[dE,dE];exact htk,by rw[dE,dE];exact hor,?_,by rw[i];exact d.2.1,λj y=>?_⟩
   ·rw[i];exact u.trans (St.kp G u.ow (kp.trans (Kp.aF rfl rfl rfl rfl)))
   ·rw[i];have e1:({dO A1 x b 41 with runs:=A.runs++[(x,b)]}:AR).tb=A.tb:=u.tb;have e2:({dO A1 x b 41 with runs:=A.runs++[(x,b)]}:AR).cE=A.cE:=d.2.2;unfold fP Cl;rw[e1,e2]
 ·left;have E:Q5 m a=false:=by simpa using hp
  unfold cA Qg;rw[E];exact⟨rfl,by simp,λL=>by cases L⟩
theorem R8 {x:Int}{r:Nat×Nat}(h:pA A x=some r):r∈A.runs/\x=(r.1:Int):=by
 unfold pA at h;exact⟨rU h,by have:=sN h;simpa using Eq.symm (by simpa using this)⟩
theorem Is (h:GA A)(x:Int):(Kp A (Qo A x)/\GA (Qo A x))/\(Qo A x).cM=A.cM/\(∀j y,fP (Qo A x) j y↔fP A j y)/\(KG A x≠0->Qo A x=A) ∧
 (KG A x=0->∃r∈A.runs,x=(r.1:Int)/\(Qo A x).runs=A.runs.filter λq=>!(q==r)):=by
 cases hr:pA A x with
 | none=>
  have e:Qo A x=A:=by unfold Qo;rw[hr]
  have F:KG A x=8:=by unfold KG;rw[hr];rfl
  rw[e,F];exact⟨⟨Kp.refl A,h⟩,rfl,λ_ _=>Iff.rfl,λ_=>rfl,λi=>by cases i⟩
 | some r=>
  obtain⟨b,i⟩:=R8 hr;have w:=h.gM r b;have s:A.runs.filter (λq=>!((q.1:Int)==x))=A.runs.filter λq=>!(q==r):=by
   apply vd;intro q g;have:((q.1:Int)==x)=(q==r):=by
    rw[lO];simp only[zS];constructor
    ·intro e;have J:=h.gM q g;exact h.gH g b (x:=q.1) O O O O
    ·rintro rfl;exact i.symm
   rw[this]
  have e:Qo A x=Vx {A with runs:=A.runs.filter λq=>!(q==r)} r:=by unfold Qo;rw[hr];simp only;rw[s]
  have F:KG A x=0:=by unfold KG;rw[hr];rfl
  obtain⟨a,m⟩:=r;obtain⟨o,B,pg,H⟩:=E0 (A:={A with runs:=A.runs.filter λq=>!(q==(a,m))}) (h.pg.same rfl rfl rfl rfl) w (λp E D=>(h.jj b E D).1);have own:∀p,a<=p->p<a+m->A.ow p=41:=λp E D=>(h.jj b E D).2;have G:=h.tb;rw[e,F];refine⟨⟨⟨rfl,rfl,rfl,H,λp C=>?_⟩,?_⟩,rfl,λ_ _=>Iff.rfl,λi=>(i rfl).elim,λ_=>⟨_,b,i,rfl⟩⟩
  ·by_cases hin:a<=p/\p<a+m
   ·rw[(B p hin.1 hin.2).1]at C;omega
   ·rw[o.f p hin]at C;exact C
  ·refine⟨pg,h.tb,h.lc,h.lt,h.cE,h.one,λj d tt u p=>?_,λp=>?_,λp=>?_,λq g=>h.gM q (zI.1 g).1,h.kh.filter _,h.pn,h.lN,h.oE⟩
   ·have u:Cl A j d tt:=u;have:=u.lt;by_cases hin:a<=p/\p<a+m
    ·rw[(B p hin.1 hin.2).2,←h.ow j d tt u p,own p hin.1 hin.2];omega
    ·rw[o.ow p hin];exact h.ow j d tt u p
   ·show _↔l6 (A.runs.filter λq=>!(q==(a,m))) p;by_cases hin:a<=p/\p<a+m
    ·rw[(B p hin.1 hin.2).2];constructor
     ·intro i;omega
     ·rintro⟨q,g,q1,q2⟩;have z:=zI.1 g;have:=h.gH z.1 b q1 q2 hin.1 hin.2;subst this;simp at z
    ·rw[o.ow p hin];show A.ow p=41↔_;rw[h.jJ];constructor
     ·rintro⟨q,g,q1⟩;refine⟨q,zI.2 ⟨g,?_⟩,q1⟩;have:q≠(a,m):=by rintro rfl;exact hin q1
      simpa using this
     ·rintro⟨q,g,q1⟩;exact⟨q,(zI.1 g).1,q1⟩
   ·by_cases hin:a<=p/\p<a+m
    ·rw[(B p hin.1 hin.2).2];omega
    ·rw[o.ow p hin];exact h.qW p
theorem Aj (k:Nat):∀(outs:List (List Int)) {A:AR},GA A->outs.flatten.Nodup->(∀x∈outs.flatten,fP A k x/\¬gS A k x) →
 Ob A (outs.foldl (λA' xs=>Zr A' (k:Int) xs) A)/\(outs.foldl (λA' xs=>Zr A' (k:Int) xs) A).cM=A.cM/\∀j y,fP (outs.foldl (λA' xs=>Zr A' (k:Int) xs) A) j y↔fP A j y/\¬(j=k/\y∈outs.flatten)
 | [],A,h,_,_=>⟨⟨h,Kp.refl A,rfl⟩,rfl,by simp⟩
 | xs::outs,A,h,hn,ht=>by
  rw[wD]at hn ht;have hn':=nt.1 hn;have m:∀x∈xs,fP A k x/\¬gS A k x:=λx i=>ht x (ke _ i);rw[qs];cases xs with
  | nil=>
   have s:Zr A (k:Int) []=A\/QG A (k:Int) []=0:=by
    by_cases w:QG A (k:Int) []=0
    ·exact .inr w
    ·exact .inl (by unfold Zr;rw[zB w])
   obtain⟨o,e,t,_⟩:=yY h (k:=(k:Int)) (xs:=[]) (λ_=>by simp);have u:∀j y,fP (Zr A (k:Int) []) j y↔fP A j y:=λj y=>by
    rcases s with s|s
    ·rw[s]
    ·rw[t s];simp
   have p:∀j y,gS (Zr A (k:Int) []) j y↔gS A j y:=λj y=>by unfold gS;rw[e]
   obtain⟨o2,e2,z⟩:=Aj k outs o.ga hn'.2.1 λx i=>by rw[u,p];exact ht x (nI _ i)
   exact⟨⟨o2.ga,o.kp.trans o2.kp,o2.runs.trans o.runs⟩,e2.trans e,λj y=>by rw[z,u];simp⟩
  | cons x0 xs=>
   obtain⟨c,C,B,_⟩:=(m x0 aA).1;have w:QG A (k:Int) (x0::xs)=0:=by
    rw[Hy h B];exact CA ⟨λx i=>(KN B).1 (m x i).1,hn'.1⟩
   obtain⟨o,e,t,_⟩:=yY h (k:=(k:Int)) (xs:=x0::xs) (λ_ x i=>by rw[dE];exact(m x i).2);have u:=t w;have p:∀j y,gS (Zr A (k:Int) (x0::xs)) j y↔gS A j y:=λj y=>by unfold gS;rw[e]
   obtain⟨o2,e2,z⟩:=Aj k outs o.ga hn'.2.1 λx i=>by
    rw[u,p];have:=ht x (nI _ i);exact⟨⟨this.1,λg=>hn'.2.2 x g.2 x i rfl⟩,this.2⟩
   refine⟨⟨o2.ga,o.kp.trans o2.kp,o2.runs.trans o.runs⟩,e2.trans e,λj y=>?_⟩;rw[z,u,dE,wD,zK];constructor
   ·rintro⟨⟨a,b⟩,d⟩;refine⟨a,λ⟨r,g⟩=>?_⟩;rcases g with g|g
    ·exact b ⟨r,g⟩
    ·exact d ⟨r,g⟩
   ·rintro⟨a,b⟩;exact⟨⟨a,λ⟨r,g⟩=>b ⟨r,.inl g⟩⟩,λ⟨r,g⟩=>b ⟨r,.inr g⟩⟩
structure tv (A B:AR):Prop where
 ob:Ob A B
 sub:∀j y,gS B j y->gS A j y
 tk:∀j y,fP B j y↔fP A j y/\(gS A j y->gS B j y)
theorem tv.trans {B C:AR}(h:tv A B)(k:tv B C):tv A C:=
 ⟨⟨k.ob.ga,h.ob.kp.trans k.ob.kp,k.ob.runs.trans h.ob.runs⟩,λj y g=>h.sub j y (k.sub j y g),λj y=>by
  rw[k.tk,h.tk];exact⟨λ⟨⟨a,b⟩,d⟩=>⟨a,λe=>d (b e)⟩,λ⟨a,b⟩=>⟨⟨a,λe=>k.sub j y (b e)⟩,λe=>b (h.sub j y e)⟩⟩⟩
theorem Ov (h:GA A)(hk:k<A.tb.length):tv A (ua A k):=by
 obtain⟨c,F,t,D,m⟩:=h.cl hk;have r:k<A.cM.length:=by rw[h.lt];exact hk
 have e:ua A k=t.out.foldl (λA' w=>Zr A' (k:Int) w) {A with cM:=A.cM.set k t.tick}:=by unfold ua;rw[m]
 have B:t.bs=t.out++t.tick.bs:=(nu ((t.low+1)/2) t.bs).symm;have i:t.bs.flatten=t.out.flatten++t.tick.bs.flatten:=by conv=>lhs;rw[B];rw[List.flatten_append]
 have u:=h.pn k t m;rw[i]at u;have g:=nt.1 u;have p:∀x∈t.bs.flatten,fP A k x:=λx d=>(KN D).2 (h.lN k c F t D m x d);have G:GA {A with cM:=A.cM.set k t.tick}:=h.jR g.2.1 (λx d=>p x (by rw[i];exact nI _ d)) λH z w C=>h.oE k H t z m w (t.oP w C);obtain⟨o,e2,E⟩:=Aj k t.out G g.1 λx d=>by
  refine⟨p x (by rw[i];exact ke _ d),?_⟩;rw[xF r];rintro(⟨_,hy⟩|⟨hy,_⟩)
  ·exact g.2.2 x d x hy rfl
  ·exact hy rfl
 rw[←e]at o e2 E;have s:∀j y,gS (ua A k) j y↔(j=k/\y∈t.tick.bs.flatten)\/(j≠k/\gS A j y):=λj y=>by
  rw[←xF r];unfold gS;rw[e2]
 refine⟨⟨o.ga,(Kp.aF rfl rfl rfl rfl:Kp A {A with cM:=A.cM.set k t.tick}).trans o.kp,o.runs⟩,λj y d=>?_,λj y=>?_⟩
 ·rcases(s j y).1 d with⟨rfl,hy⟩|⟨_,hy⟩
  ·rw[Hb m,i];exact nI _ hy
  ·exact hy
 ·rw[E,s];show fP A j y/\_↔_;by_cases hjk:j=k
  ·subst hjk;rw[Hb m,i,zK];constructor
   ·rintro⟨a,b⟩;refine⟨a,λd=>?_⟩;rcases d with d|d
    ·exact(b ⟨rfl,d⟩).elim
    ·exact .inl ⟨rfl,d⟩
   ·rintro⟨a,b⟩;refine⟨a,λ⟨_,d⟩=>?_⟩;rcases b (.inl d)with⟨_,hy⟩|⟨hy,_⟩
    ·exact g.2.2 y d y hy rfl
    ·exact hy rfl
  ·exact⟨λ⟨a,_⟩=>⟨a,λd=>.inr ⟨hjk,d⟩⟩,λ⟨a,_⟩=>⟨a,λ⟨d,_⟩=>hjk d⟩⟩
theorem Et (h:GA A):∀m,m<=A.tb.length->tv A ((List.range m).foldl ua A)
 | 0,_=>⟨⟨h,Kp.refl A,rfl⟩,λ_ _=>id,λ_ _=>⟨λa=>⟨a,id⟩,λa=>a.1⟩⟩
 | m+1,hm=>by
  have t:=Et h m O;rw[qm,uO,qs,List.foldl_nil];exact t.trans (Ov t.ob.ga (by rw[t.ob.kp.tb];omega))
theorem Le (h:GA A):tv A (qO A):=Et h _ (by rw[h.lt];exact zD _)
end Go.Ar
namespace Go.Ar
open Go.Bu (Zb Qx Y8 oY KQ dD take QZ Kq Bounded)
variable {A:AR}{sp:Sp}{k:Nat}{c:bZ}{ss:List cG}
end Go.Ar
namespace Go.Ar
structure Pc where
 k:Nat
 cls:Int
 addr:Nat
 size:Nat
 eL:Bool
 deriving DecidableEq
structure Wd where
 tb:List bZ
 sp:Sp
 bX:List AR
 held:List Pc
structure Act where
 kd:Int
 ar:Int
 cl:Int
 a:Int
 b:Int
 l:List Int
abbrev Key:=Nat×Int×Nat
def Pc.key (p:Pc):Key:=(p.k,p.cls,p.addr)
def lj (k:Nat)(cls x:Int)(p:Pc):Bool:=p.k==k&&(p.cls==cls&&((p.addr:Int)==x && !p.eL))
def tF (held:List Pc)(k:Nat)(cls x:Int):Option Nat:=held.findIdx? (lj k cls x)
def jf (held:List Pc)(k:Nat)(cls:Int)(l:List Int):Bool:=l.all (λx=>(tF held k cls x).isSome)&&decide l.Nodup
def lF (k:Nat)(cls:Int)(held:List Pc)(x:Int):List Pc:=match tF held k cls x with
 | some i=>held.take i++held.drop (i+1)
 | none=>held
def uJ (held:List Pc)(k:Nat)(cls:Int)(l:List Int):List Pc:=l.foldl (lF k cls) held
def dZ (k:Nat)(cls:Int)(l:List Int)(p:Pc):Bool:=p.k==k&&(p.cls==cls&&l.contains (p.addr:Int))
def Hj (held:List Pc)(k:Nat)(cls:Int)(l:List Int)(m:Bool):List Pc:=held.map λp=>if dZ k cls l p then{p with eL:=m}else p
def yj (us:List AR)(held:List Pc):List Pc:=held.filter λp=>!p.eL||(match us[p.k]? with
 | some A=>uM A (p.addr:Int)
 | none=>false)
def n4 (tb:List bZ)(k:Int):Nat:=((tb[k.toNat]?).map (·.size)).getD 0
def Wd.put (W:Wd)(k:Nat)(A:AR)(sp:Sp)(held:List Pc):Wd:={W with sp:=sp,bX:=W.bX.set k A,held:=held}
def Hd (A:AR)(p:Pc):Prop:=(p.cls = -1/\p.eL=false/\∃r∈A.runs,p.addr=r.1*256/\p.size=r.2*256) ∨
 ∃(j:Nat) (c:bZ),p.cls=j/\A.tb[j]?=some c/\p.size=c.size/\fP A j (p.addr:Int)/\(p.eL=true↔gS A j (p.addr:Int))
structure WI (W:Wd):Prop where
 ga:∀(k:Nat) (A:AR),W.bX[k]?=some A->GA A
 ow:∀(k:Nat) (A:AR),W.bX[k]?=some A->Ow A W.sp
 tb:∀(k:Nat) (A:AR),W.bX[k]?=some A->A.tb=W.tb
 low:∀(k:Nat) (A:AR),W.bX[k]?=some A->∀p,p<16->A.f p=0
 own:∀p,gf W.sp.st p≠0->∃(k:Nat) (A:AR),W.bX[k]?=some A/\A.f p≠0
 one:∀p (k l:Nat) (A B:AR),W.bX[k]?=some A->W.bX[l]?=some B->A.f p≠0->B.f p≠0->k=l
 hk:(W.held.map Pc.key).Nodup
 hf:∀p∈W.held,∃A,W.bX[p.k]?=some A/\Hd A p
 ht:∀(k:Nat) (A:AR),W.bX[k]?=some A->∀(j:Nat) (y:Int),fP A j y->∃p∈W.held,p.k=k/\p.cls=j/\(p.addr:Int)=y
 hr:∀(k:Nat) (A:AR),W.bX[k]?=some A->∀r∈A.runs,∃p∈W.held,p.k=k/\p.cls = -1/\p.addr=r.1*256
variable {W:Wd}{k:Nat}{A:AR}
theorem KT {α:Type}{l:List α}{k j:Nat}{x y:α}(h:(l.set k x)[j]?=some y):(j=k/\y=x/\k<l.length)\/(j≠k/\l[j]?=some y):=by
 by_cases hjk:j=k
 ·subst hjk;have a:j<l.length:=by have:=(cW.1 h).1;simpa using this
  rw[zL a]at h;exact .inl ⟨rfl,(Option.some.inj h).symm,a⟩
 ·rw[zk (Ne.symm hjk)]at h;exact .inr ⟨hjk,h⟩
theorem WI.unique (h:WI W){p q:Pc}(hp:p∈W.held)(hq:q∈W.held)(e:p.key=q.key):p=q:=by
 obtain⟨i,g⟩:=zQ hp;obtain⟨j,d⟩:=zQ hq;obtain⟨a,rfl⟩:=cW.1 g;obtain⟨b,rfl⟩:=cW.1 d;have:=l3.1 h.hk;rcases oZ i j with hl|hl|hl
 ·exact(this i j (by simpa using a) (by simpa using b) hl (by simpa using e)).elim
 ·subst hl;rfl
 ·exact(this j i (by simpa using b) (by simpa using a) hl (by simpa using e.symm)).elim
theorem WI.step (h:WI W)(hk:W.bX[k]?=some A){B:AR}{sp':Sp}{held':List Pc}(s:St A B W.sp sp')(h1:(held'.map Pc.key).Nodup)(h2:∀p∈held',p.k=k->Hd B p)(h3:∀p,p.k≠k->(p∈held'↔p∈W.held))
 (h4:∀(j:Nat) (y:Int),fP B j y->∃p∈held',p.k=k/\p.cls=j/\(p.addr:Int)=y) (h5:∀r∈B.runs,∃p∈held',p.k=k/\p.cls = -1/\p.addr=r.1*256):WI (W.put k B sp' held'):=by
 have E:=(cW.1 hk).1;have m:(W.bX.set k B)[k]?=some B:=zL E;have G:∀{j:Nat} {C:AR},j≠k->W.bX[j]?=some C->(W.bX.set k B)[j]?=some C:=λa e=>(zk (Ne.symm a)).trans e;have g:∀{j:Nat} {C:AR},j≠k->W.bX[j]?=some C->∀p,C.f p≠0->A.f p=0/\B.f p=0/\gf sp'.st p=gf W.sp.st p:=by
  intro j C a e p b;have u:A.f p=0:=Classical.byContradiction λx=>a (h.one p j k C A e hk b x);have w:B.f p=0:=Classical.byContradiction λx=>by
   have:=(s.new p u x).1;exact(h.ow j C e).own p b this
  exact⟨u,w,s.same p u w⟩
 refine⟨λj C a=>?_,λj C a=>?_,λj C a=>?_,λj C a p b=>?_,λp b=>?_,λp j l C D a H e z=>?_,h1,λp b=>?_,λj C a i y J=>?_,λj C a r hr=>?_⟩
 ·rcases KT a with⟨rfl,rfl,_⟩|⟨_,a⟩
  ·exact s.ga
  ·exact h.ga j C a
 ·rcases KT a with⟨rfl,rfl,_⟩|⟨d,a⟩
  ·exact s.ow
  ·have o:=h.ow j C a;have K:=h.ow k A hk;refine⟨?_,λp b=>?_,λp b=>?_,s.ow.le⟩
   ·show sp'.st.length=C.n;rw[s.ow.l,s.n,←K.l,o.l]
   ·show gf sp'.st p≠0;rw[(g d a p b).2.2];exact o.own p b
   ·show gf sp'.st p=1;rw[(g d a p O).2.2];exact o.cl p b
 ·rcases KT a with⟨rfl,rfl,_⟩|⟨_,a⟩
  ·exact s.tb.trans (h.tb _ A hk)
  ·exact h.tb j C a
 ·rcases KT a with⟨rfl,rfl,_⟩|⟨_,a⟩
  ·apply Classical.byContradiction;intro x;have:=s.new p (h.low _ A hk p b) x;omega
  ·exact h.low j C a p b
 ·have b:gf sp'.st p≠0:=b;by_cases w:B.f p=0
  ·by_cases u:A.f p=0
   ·rw[s.same p u w]at b;obtain⟨j,C,a,e⟩:=h.own p b;have d:j≠k:=by
     rintro rfl;rw[hk]at a;cases a;exact e u
    exact⟨j,C,G d a,e⟩
   ·exact(b (s.gone p u w)).elim
  ·exact⟨k,B,m,w⟩
 ·rcases KT a with⟨rfl,rfl,_⟩|⟨d,hj'⟩
  ·rcases KT H with⟨rfl,rfl,_⟩|⟨hne2,hl'⟩
   ·rfl
   ·exact(e (g hne2 hl' p z).2.1).elim
  ·rcases KT H with⟨rfl,rfl,_⟩|⟨hne2,hl'⟩
   ·exact(z (g d hj' p e).2.1).elim
   ·exact h.one p j l C D hj' hl' e z
 ·by_cases hpk:p.k=k
  ·exact⟨B,by rw[hpk];exact m,h2 p b hpk⟩
  ·obtain⟨C,e,L⟩:=h.hf p ((h3 p hpk).1 b);exact⟨C,G hpk e,L⟩
 ·rcases KT a with⟨rfl,rfl,_⟩|⟨d,a⟩
  ·exact h4 i y J
  ·obtain⟨p,b,e1,e2,F⟩:=h.ht j C a i y J;exact⟨p,(h3 p (by rw[e1];exact d)).2 b,e1,e2,F⟩
 ·rcases KT a with⟨rfl,rfl,_⟩|⟨d,a⟩
  ·exact h5 r hr
  ·obtain⟨p,b,e1,e2,F⟩:=h.hr j C a r hr;exact⟨p,(h3 p (by rw[e1];exact d)).2 b,e1,e2,F⟩
theorem Hd.to {B:AR}{p:Pc}(h:Hd A p)(e1:B.tb=A.tb)(e2:B.runs=A.runs)(e3:∀j y,fP A j y->fP B j y)(e4:∀j y,gS B j y↔gS A j y):Hd B p:=by
 rcases h with⟨h1,h2,r,hr,h3⟩|⟨j,c,h1,h2,h3,h4,h5⟩
 ·exact .inl ⟨h1,h2,r,by rw[e2];exact hr,h3⟩
 ·exact .inr ⟨j,c,h1,by rw[e1];exact h2,h3,e3 _ _ h4,by rw[e4];exact h5⟩
theorem WI.hd (h:WI W)(hk:W.bX[k]?=some A){p:Pc}(hp:p∈W.held)(e:p.k=k):Hd A p:=by
 obtain⟨C,a,b⟩:=h.hf p hp;rw[e,hk]at a;cases a;exact b
theorem WI.lC (h:WI W)(hk:W.bX[k]?=some A){B:AR}{sp':Sp}(s:St A B W.sp sp')(e2:B.runs=A.runs)(e3:∀j y,fP B j y↔fP A j y)(e4:B.cM=A.cM):WI (W.put k B sp' W.held):=
 h.step hk s h.hk (λp b e=>(h.hd hk b e).to s.tb e2 (λj y=>(e3 j y).2) λj y=>by unfold gS;rw[e4]) (λ_ _=>Iff.rfl) (λj y a=>h.ht k A hk j y ((e3 j y).1 a)) λr hr=>h.hr k A hk r (by rw[←e2];exact hr)
theorem WI.cls (h:WI W){p:Pc}(hp:p∈W.held){j:Nat}(e:p.cls=j)(hk:W.bX[p.k]?=some A):∃c,A.tb[j]?=some c/\p.size=c.size/\fP A j (p.addr:Int)/\(p.eL=true↔gS A j (p.addr:Int)):=by
 rcases h.hd hk hp rfl with⟨h1,_⟩|⟨i,c,h1,h2,h3,h4,h5⟩
 ·omega
 ·obtain rfl:i=j:=by omega
  exact⟨c,h2,h3,h4,h5⟩
theorem WI.run (h:WI W){p:Pc}(hp:p∈W.held)(e:p.cls = -1)(hk:W.bX[p.k]?=some A):p.eL=false/\∃r∈A.runs,p.addr=r.1*256/\p.size=r.2*256:=by
 rcases h.hd hk hp rfl with⟨_,h2⟩|⟨i,c,h1,_⟩
 ·exact h2
 ·omega
theorem Kr {k:Nat}{cls x:Int}{p:Pc}:lj k cls x p=true↔p.k=k/\p.cls=cls/\(p.addr:Int)=x/\p.eL=false:=by
 simp[lj]
theorem ZQ {k:Nat}{cls:Int}{l:List Int}{p:Pc}:dZ k cls l p=true↔p.k=k/\p.cls=cls/\(p.addr:Int)∈l:=by
 simp[dZ]
theorem Np {held:List Pc}{k:Nat}{cls x:Int}{i:Nat}(h:tF held k cls x=some i):∃p,held[i]?=some p/\lj k cls x p=true:=by
 obtain⟨a,b,_⟩:=m5.1 h;exact⟨held[i],cV a,b⟩
theorem MW {held:List Pc}{k:Nat}{cls x:Int}{p:Pc}(hp:p∈held)(h:lj k cls x p=true):(tF held k cls x).isSome=true:=by
 unfold tF;rw[List.findIdx?_isSome,j9];exact⟨p,hp,h⟩
theorem Kx {held:List Pc}{k:Nat}{cls:Int}{l:List Int}:jf held k cls l=true↔(∀x∈l,∃p∈held,lj k cls x p=true)/\l.Nodup:=by
 unfold jf;rw[zF,jW,zU];refine and_congr_left λ_=>forall_congr' λx=>imp_congr_right λa=>?_;unfold tF;rw[List.findIdx?_isSome,j9]
theorem N5 {held:List Pc}(hn:(held.map Pc.key).Nodup){i:Nat}{p:Pc}(hi:held[i]?=some p):held.take i++held.drop (i+1)=held.filter λq=>!(q.key==p.key):=by
 induction held generalizing i with
 | nil=>simp at hi
 | cons q l ih=>
  rw[zT,zr]at hn;cases i with
  | zero=>
   simp only[yJ,Option.some.injEq]at hi;subst hi;have:l.filter (λr=>!(r.key==q.key))=l:=by
    rw[po];intro r hr;have:r.key≠q.key:=λe=>hn.1 (zE.2 ⟨r,hr,e⟩);simpa using this
   simp[this]
  | succ i=>
   have hi:l[i]?=some p:=by simpa using hi
   have a:q.key≠p.key:=λe=>hn.1 (zE.2 ⟨p,zG hi,e.symm⟩);rw[ug,xH,kW,ih hn.2 hi,rQ];have:(!(q.key==p.key))=true:=by simpa using a
   rw[this];rfl
theorem VG {held:List Pc}(hn:(held.map Pc.key).Nodup)(f:Pc->Bool):((held.filter f).map Pc.key).Nodup:=hn.sublist (List.filter_sublist.map _)
theorem Ch {k:Nat}{cls:Int}:∀(l:List Int) {held:List Pc},(held.map Pc.key).Nodup->(∀x∈l,∃p∈held,lj k cls x p=true)->l.Nodup->uJ held k cls l=held.filter λp=>!dZ k cls l p
 | [],held,_,_,_=>by
  have:∀p,dZ k cls [] p=false:=λp=>by simp[dZ]
  exact(po.2 λp _=>by rw[this];rfl).symm
 | x::l,held,hn,ho,hl=>by
  obtain⟨p,A,B⟩:=ho x aA;obtain⟨i,s⟩:=pj.1 (MW A B);obtain⟨q,C,j⟩:=Np s;have g:=zr.1 hl;have e1:lF k cls held x=held.filter λr=>!(r.key==q.key):=by unfold lF;rw[s];exact N5 hn C
  obtain⟨E,G,F,D⟩:=Kr.1 j;have w:=Ch l (held:=held.filter λr=>!(r.key==q.key)) (VG hn _) (λy u=>by
   obtain⟨r,m,d⟩:=ho y (by simp[u]);refine⟨r,zI.2 ⟨m,?_⟩,d⟩;have:r.key≠q.key:=λe=>by
    have H:r.addr=q.addr:=congrArg (λz:Key=>z.2.2) e;have:=(Kr.1 d).2.2.1;have:y=x:=by omega
    subst this;exact g.1 u
   simpa using this) g.2
  unfold uJ at w ⊢;rw[qs,e1,w,AM];apply vd;intro r m;have e:(r.key==q.key)=(r.k==k&&(r.cls==cls&&(r.addr:Int)==x)):=by
   rw[lO];simp only[Pc.key,zS,zF,Prod.mk.injEq];constructor
   ·rintro⟨a,b,c⟩;exact⟨O,O,O⟩
   ·rintro⟨a,b,c⟩;exact⟨O,O,O⟩
  rw[e];unfold dZ;rw[List.contains_cons];cases r.k==k<;>cases r.cls==cls<;>cases((r.addr:Int)==x)<;>cases l.contains (r.addr:Int)<;>rfl
theorem Qv {held:List Pc}{k:Nat}{cls:Int}{l:List Int}{m:Bool}{p:Pc}:p∈Hj held k cls l m↔∃q∈held,p=if dZ k cls l q then{q with eL:=m}else q:=by
 unfold Hj;rw[zE];constructor
 ·rintro⟨q,hq,rfl⟩;exact⟨q,hq,rfl⟩
 ·rintro⟨q,hq,rfl⟩;exact⟨q,hq,rfl⟩
theorem Ms {held:List Pc}{k:Nat}{cls:Int}{l:List Int}{m:Bool}:(Hj held k cls l m).map Pc.key=held.map Pc.key:=by
 unfold Hj;rw[k8];apply ko;intro p _;simp only[Function.comp];split<;>rfl
theorem H6 (hk:W.bX[k]?=some A)(h:WI W):WI (W.put k A W.sp W.held):=h.lC hk (St.refl (h.ga k A hk) (h.ow k A hk)) rfl (λ_ _=>Iff.rfl) rfl
theorem PJ (h:GA A){j:Nat}{c:bZ}{ss:List cG}(hc:Cl A j c ss){l:Nat}{s:cG}{i:Nat}(hs:ss[l]?=some s)(hi:i<c.n){x:Nat}(h1:at_ c s i<=x)(h2:x<at_ c s i+c.size):UB A (x:Int)=some ((j:Int),at_ c s i):=by
 have d:=h.cE j c ss hc;have b:=Ht d.pos hi h1 h2;have a:=h.used hc (zG hs) b.1 b.2;have e:=h.pg.lt (p:=x/256) (by rw[a.1];omega);have r:=h.pg.n2;have m:=hc.lt;have g:=h.tb;unfold UB;rw[zB O,dE];simp only;rw[zC (show x/256<1024 by omega),a.2,zB O,zB O,Nat.add_sub_cancel,hc.1,hc.2];simp only;rw[(Fh d).2 ⟨l,s,i,hs,hi,rfl,O,O⟩];rfl
theorem CZ (h:GA A){r:Nat×Nat}(hr:r∈A.runs){x:Nat}(h1:r.1*256<=x)(h2:x<(r.1+r.2)*256):UB A (x:Int)=some (-1,r.1*256):=by
 have a:=h.jj hr (p:=x/256) O O;have b:=h.pg.lt (p:=x/256) (by rw[a.1];omega);have d:=h.pg.n2;unfold UB;rw[zB O,dE];simp only;rw[zC (show x/256<1024 by omega),a.2,zB O,zC rfl,Bx h.nO hr O O];rfl
theorem NX (h:GA A){x:Int}{k:Int}{a:Nat}(hf:UB A x=some (k,a)):(k = -1/\∃r∈A.runs,a=r.1*256/\((r.1*256:Nat):Int)<=x/\x<(((r.1+r.2)*256:Nat):Int)) ∨
 ∃(j:Nat) (c:bZ) (ss:List cG) (l:Nat) (s:cG) (i:Nat),k=j/\Cl A j c ss/\ss[l]?=some s/\i<c.n/\a=at_ c s i/\((at_ c s i:Nat):Int)<=x/\x<((at_ c s i+c.size:Nat):Int):=by
 unfold UB at hf;split at hf
 ·cases hf
 ·rename_i hx;obtain⟨y,rfl⟩:=za (show 0<=x by omega);rw[dE]at hf;simp only at hf;by_cases hlt:y/256<1024
  ·rw[zC hlt]at hf;split at hf
   ·cases hf
   ·split at hf
    ·rename_i h0 h41;obtain⟨r,d,b⟩:=ot.1 hf;have w:=rU d;have m:=sN d;simp at m;cases b;exact .inl ⟨rfl,r,w,rfl,O,O⟩
    ·rename_i h0 h41;split at hf
     ·rename_i c ss h1 h2;obtain⟨C,z,b⟩:=ot.1 hf;cases b;have e:Cl A (A.ow (y/256)-1) c ss:=⟨h1,h2⟩;obtain⟨l,s,i,p,g,rfl,B,u⟩:=(Fh (h.cE _ _ _ e)).1 z;exact .inr ⟨_,c,ss,l,s,i,rfl,e,p,g,rfl,B,u⟩
     ·cases hf
  ·rw[zB hlt,zC rfl]at hf;cases hf
theorem fP.find (h:GA A){j:Nat}{x:Int}(hx:fP A j x):∃y:Nat,x=y/\UB A x=some ((j:Int),y):=by
 obtain⟨c,d,b,m⟩:=hx;have a:=h.cE j c d b;obtain⟨l,s,i,g,e,rfl,p⟩:=(Vq a).1 m;exact⟨_,rfl,PJ h b g e (zD _) (by have:=a.pos;omega)⟩
theorem G3 (h:GA A){x:Int}:uM A x=true↔(∃j,fP A j x)\/∃r∈A.runs,x=((r.1*256:Nat):Int):=by
 constructor
 ·intro hx;unfold uM at hx;split at hx
  ·rename_i k a d;split at hx
   ·rename_i he;rcases NX h d with⟨rfl,r,hr,rfl,_⟩|⟨j,c,e,l,s,i,rfl,b,hs,hi,rfl,_⟩
    ·exact .inr ⟨r,hr,he.symm⟩
    ·rw[zB O,dE,b.1,b.2]at hx;exact .inl ⟨j,c,e,b,by simpa[Tk]using hx⟩
   ·cases hx
  ·cases hx
 ·rintro(⟨j,hj⟩|⟨r,hr,rfl⟩)
  ·obtain⟨y,rfl,d⟩:=hj.find h;obtain⟨c,e,b,g⟩:=hj;unfold uM;rw[d];simp only;rw[zC True.intro,zB O,dE,b.1,b.2];unfold Tk at g;show(dY c e (y:Int)==some true)=true;rw[g];rfl
  ·unfold uM;have:=h.gM r hr;rw[CZ h hr (zD _) O];simp
theorem WI.vN (h:WI W)(hk:W.bX[k]?=some A){cl:Int}{l:List Int}(ho:jf W.held k cl l=true){j:Nat}(e:cl=j):∀x∈l,¬gS A j x:=by
 intro x hx hin;obtain⟨p,i,a⟩:=(Kx.1 ho).1 x hx;obtain⟨m,r,g,b⟩:=Kr.1 a;obtain⟨c,_,_,_,d⟩:=h.cls i (j:=j) (by rw[r,e]) (by rw[m];exact hk);rw[g]at d;rw[d.2 hin]at b;cases b
theorem WI.grow (h:WI W)(hk:W.bX[k]?=some A)(x:Int):WI (W.put k (cL A W.sp x).1 (cL A W.sp x).2 W.held):=by
 obtain⟨s,e1,e2,a,_⟩:=IY (h.ga k A hk) (h.ow k A hk) x;exact h.lC hk s e1 a e2
theorem WI.from (h:WI W)(hk:W.bX[k]?=some A)(cl m:Int):WI (W.put k (Yu A cl m) W.sp (W.held++(Yc A cl m).map λy=>⟨k,cl,y,n4 W.tb cl,false⟩)):=by
 obtain⟨o,e1,e2,J,E,z⟩:=Dg (h.ga k A hk) cl m;have tb:(Yu A cl m).tb=A.tb:=o.kp.tb;have i:∀y∈Yc A cl m,∃j:Nat,cl=j/\j<A.tb.length:=λy g=>J (λe=>by rw[e]at g;simp at g);have w:∀y∈Yc A cl m,∀p∈W.held,¬(p.k=k/\p.cls=cl/\p.addr=y):=by
  rintro y g p d ⟨H,K,G⟩;obtain⟨j,rfl,_⟩:=i y g;obtain⟨c,_,_,ht,_⟩:=h.cls d K (by rw[H];exact hk);rw[G]at ht;exact E y g (by rw[dE];exact ht)
 refine h.step hk (o.st (h.ow k A hk)) ?_ (λp d e=>?_) (λp B=>?_) (λj y g=>?_) λr hr=>?_
 ·rw[kC,nt];refine⟨h.hk,?_,λa L b N e=>?_⟩
  ·rw[k8];exact List.Pairwise.map (R:=(· ≠ ·)) _ (λa b C e=>C (by simpa[Pc.key]using e)) e2
  ·subst e;obtain⟨p,d,rfl⟩:=zE.1 L;obtain⟨q,M,e⟩:=zE.1 N;obtain⟨y,g,rfl⟩:=zE.1 M;simp only[Pc.key,Prod.mk.injEq]at e;exact w y g p d ⟨e.1.symm,e.2.1.symm,e.2.2.symm⟩
 ·rcases zK.1 d with d|d
  ·exact(h.hd hk d e).to tb o.runs (λj y u=>(z j y).2 (.inl u)) λj y=>by unfold gS;rw[e1]
  ·obtain⟨y,g,rfl⟩:=zE.1 d;obtain⟨j,rfl,u⟩:=i y g;refine .inr ⟨j,A.tb[j],rfl,by rw[tb];exact cV u,?_,(z j y).2 (.inr ⟨(dE j).symm,y,g,rfl⟩),?_⟩
   ·show n4 W.tb (j:Int)=_;unfold n4;rw[dE,←h.tb k A hk,cV u];rfl
   ·constructor
    ·intro hx;cases hx
    ·rintro⟨t,ht,hx⟩;rw[e1]at ht;obtain⟨c,F,P,D,s⟩:=(h.ga k A hk).cl u;rw[ht]at s;cases s;exact(E y g (by rw[dE];exact(KN D).2 ((h.ga k A hk).lN j c F t D ht _ hx))).elim
 ·rw[zK];constructor
  ·rintro(d|d)
   ·exact d
   ·obtain⟨y,_,rfl⟩:=zE.1 d;exact(B rfl).elim
  ·exact .inl
 ·rcases(z j y).1 g with g|⟨rfl,x,hx,rfl⟩
  ·obtain⟨p,d,q⟩:=h.ht k A hk j y g;exact⟨p,ke _ d,q⟩
  ·obtain⟨j,rfl,_⟩:=i x hx;exact⟨_,nI _ (zE.2 ⟨x,hx,rfl⟩),rfl,by simp,rfl⟩
 ·rw[o.runs]at hr;obtain⟨p,d,q⟩:=h.hr k A hk r hr;exact⟨p,ke _ d,q⟩
theorem WI.ya (h:WI W){cl:Int}{l:List Int}(ho:jf W.held k cl l=true):uJ W.held k cl l=W.held.filter λp=>!dZ k cl l p:=
 Ch l h.hk (Kx.1 ho).1 (Kx.1 ho).2
theorem WI.OW (h:WI W)(hk:W.bX[k]?=some A){cl:Int}{l:List Int}(ho:jf W.held k cl l=true):WI (W.put k (Zr A cl l) W.sp (if QG A cl l=0 then uJ W.held k cl l else W.held)):=by
 have ga:=h.ga k A hk;obtain⟨o,e1,e2,J⟩:=yY ga (k:=cl) (xs:=l) λg x m=>by
  obtain⟨j,c,G,rfl,_⟩:=GK ga g;rw[dE];exact h.vN hk ho rfl x m
 by_cases g:QG A cl l=0
 ·rw[zC g,h.ya ho];obtain⟨j,c,G,rfl,L,M⟩:=GK ga g;have e2:=e2 g;rw[dE]at e2;refine h.step hk (o.st (h.ow k A hk)) (VG h.hk _) (λp s e=>?_) (λp z=>?_) (λi y H=>?_) λr hr=>?_
  ·have u:=zI.1 s;have D:dZ k (j:Int) l p=false:=by simpa using u.2
   rcases h.hd hk u.1 e with⟨h1,h2,r,hr,h3⟩|⟨i,d,h1,h2,h3,h4,h5⟩
   ·exact .inl ⟨h1,h2,r,by rw[o.runs];exact hr,h3⟩
   ·refine .inr ⟨i,d,h1,by rw[o.kp.tb];exact h2,h3,(e2 i _).2 ⟨h4,λ⟨a,b⟩=>?_⟩,by unfold gS at h5 ⊢;rw[e1];exact h5⟩;have:dZ k (j:Int) l p=true:=ZQ.2 ⟨e,by rw[h1,a],b⟩;rw[D]at this;cases this
  ·rw[zI];have:dZ k (j:Int) l p=false:=by
    apply mR.2;intro m;exact z (ZQ.1 m).1
   rw[this];simp
  ·obtain⟨C,F⟩:=(e2 i y).1 H;obtain⟨p,s,B,E,w⟩:=h.ht k A hk i y C;refine⟨p,zI.2 ⟨s,?_⟩,B,E,w⟩;have:dZ k (j:Int) l p=false:=by
    apply mR.2;intro m;obtain⟨_,N,K⟩:=ZQ.1 m;exact F ⟨O,by rw[←w];exact K⟩
   rw[this];rfl
  ·rw[o.runs]at hr;obtain⟨p,s,B,E,w⟩:=h.hr k A hk r hr;refine⟨p,zI.2 ⟨s,?_⟩,B,E,w⟩;have:dZ k (j:Int) l p=false:=by
    apply mR.2;intro m;have:=(ZQ.1 m).2.1;omega
   rw[this];rfl
 ·rw[zB g,J g];exact H6 hk h
theorem WI.move (h:WI W)(hk:W.bX[k]?=some A){B:AR}{j:Nat}{l:List Int}{m:Bool}(o:Ob A B)(e1:∀i y,fP B i y↔fP A i y)(e2:∀i y,gS B i y↔if i=j/\y∈l then m=true else gS A i y):WI (W.put k B W.sp (Hj W.held k (j:Int) l m)):=by
 refine h.step hk (o.st (h.ow k A hk)) (by rw[Ms];exact h.hk) (λp a e=>?_) (λp b=>?_) (λi y g=>?_) λr hr=>?_
 ·obtain⟨q,w,rfl⟩:=Qv.1 a;have d:q.k=k:=by
   split at e<;>exact e
  rcases h.hd hk w d with⟨h1,h2,r,hr,h3⟩|⟨i,c,h1,h2,h3,h4,h5⟩
  ·have:dZ k (j:Int) l q=false:=by
    apply mR.2;intro hx;have:=(ZQ.1 hx).2.1;omega
   rw[this];exact .inl ⟨h1,h2,r,by rw[o.runs];exact hr,h3⟩
  ·by_cases hx:dZ k (j:Int) l q=true
   ·rw[zC hx];obtain⟨_,D,C⟩:=ZQ.1 hx;have x:i=j:=by omega
    refine .inr ⟨i,c,h1,by rw[o.kp.tb];exact h2,h3,(e1 _ _).2 h4,?_⟩;show m=true↔gS B i (q.addr:Int);rw[e2,zC ⟨x,C⟩]
   ·rw[zB hx];refine .inr ⟨i,c,h1,by rw[o.kp.tb];exact h2,h3,(e1 _ _).2 h4,?_⟩;rw[e2,zB λg=>hx (ZQ.2 ⟨d,by rw[h1,g.1],g.2⟩)];exact h5
 ·rw[Qv];constructor
  ·rintro⟨q,w,rfl⟩;have:dZ k (j:Int) l q=false:=by
    apply mR.2;intro hx;rw[zC hx]at b;exact b (ZQ.1 hx).1
   rw[this];exact w
  ·intro a;refine⟨p,a,?_⟩;have:dZ k (j:Int) l p=false:=by
    apply mR.2;intro hx;exact b (ZQ.1 hx).1
   rw[this];rfl
 ·obtain⟨p,a,z,s,u⟩:=h.ht k A hk i y ((e1 i y).1 g);refine⟨_,Qv.2 ⟨p,a,rfl⟩,?_,?_,?_⟩
  ·split<;>exact z
  ·split<;>exact s
  ·split<;>exact u
 ·rw[o.runs]at hr;obtain⟨p,a,z,s,u⟩:=h.hr k A hk r hr;refine⟨_,Qv.2 ⟨p,a,rfl⟩,?_,?_,?_⟩
  ·split<;>exact z
  ·split<;>exact s
  ·split<;>exact u
theorem LC {held:List Pc}{k:Nat}{cls:Int}{m:Bool}:Hj held k cls [] m=held:=by
 unfold Hj;have:∀p,dZ k cls [] p=false:=λp=>by simp[dZ]
 simp[this]
theorem WI.vo (h:WI W)(hk:W.bX[k]?=some A)(cl:Int):WI (W.put k (Zt A cl) W.sp (Hj W.held k cl (Ys A cl) false)):=by
 obtain⟨o,e1,e2,s,d,a⟩:=DA (h.ga k A hk) cl;by_cases hv:Ys A cl=[]
 ·rw[hv,LC];have g:∀j y,gS (Zt A cl) j y↔gS A j y:=λj y=>by rw[a,hv];simp
  refine h.step hk (o.st (h.ow k A hk)) h.hk (λp b e=>(h.hd hk b e).to o.kp.tb o.runs (λj y=>(e1 j y).2) g) (λ_ _=>Iff.rfl) (λj y m=>h.ht k A hk j y ((e1 j y).1 m)) λr hr=>h.hr k A hk r (by rw[←o.runs];exact hr)
 ·obtain⟨j,rfl,_⟩:=d hv;rw[dE]at a;exact h.move hk o e1 λi y=>by
   rw[a];split
   ·rename_i hx;simp[hx]
   ·rename_i hx;simp[hx]
theorem WI.JD (h:WI W)(hk:W.bX[k]?=some A){cl:Int}{l:List Int}(ho:jf W.held k cl l=true):WI (W.put k (QR A cl l) W.sp (if KU A cl l then Hj W.held k cl l true else W.held)):=by
 by_cases a:KU A cl l=true
 ·have b:∃j:Nat,cl=j:=by
   have d:UT A cl l=0:=by
    unfold KU at a;simp only[zF,zU]at a;exact a.1
   have b:A.ck cl=true:=by
    unfold UT at d;split at d
    ·assumption
    ·cases d
   obtain⟨j,g,_⟩:=U7.1 b;exact⟨j,g⟩
  obtain⟨j,rfl⟩:=b;obtain⟨o,e1,e2,_⟩:=Py (h.ga k A hk) (j:Int) (xs:=l) (Kx.1 ho).2 (by rw[dE];exact h.vN hk ho rfl);obtain⟨_,_,e2⟩:=e2 a;rw[dE]at e2;rw[a,zC rfl];exact h.move hk o e1 λi y=>by
   rw[e2];split
   ·rename_i hx;simp[hx]
   ·rename_i hx;simp[hx]
 ·have a:KU A cl l=false:=by simpa using a
  have e:QR A cl l=A:=by unfold QR;rw[a];rfl
  rw[a,e];exact H6 hk h
theorem WI.uN (h:WI W)(hk:W.bX[k]?=some A)(m a:Int):WI (W.put k (cA A W.sp m a).1 (cA A W.sp m a).2 (if Qg A W.sp m a=0 then W.held++[⟨k, -1,ZT A W.sp m a*256,m.toNat*256,false⟩]else W.held)):=by
 rcases Nd (h.ga k A hk) (h.ow k A hk) m a with⟨e,hE,_⟩|⟨x,A1,sp1,g,hE,hV,e,htk,hor,s,et,ek⟩
 ·rw[zB hE,e];exact H6 hk h
 ·rw[zC hE,hV];have w:(cA A W.sp m a).1.runs=A.runs++[(x,m.toNat)]:=by rw[e]
  have z:∀r∈A.runs,r.1≠x:=by
   have hd:=s.ga.kh;rw[w]at hd;intro r hr e2;have u:=(px.1 hd).2.2 r hr (x,m.toNat) aA;have B:=(h.ga k A hk).gM r hr;have i:=s.ga.gM (x,m.toNat) (by rw[w];simp);simp only at u i;omega
  refine h.step hk s ?_ (λp g e=>?_) (λp C=>?_) (λj y D=>?_) λr hr=>?_
  ·rw[kC,nt];refine⟨h.hk,by simp,λb E d hd e2=>?_⟩;subst e2;obtain⟨p,g,rfl⟩:=zE.1 E;simp only[zT,qT,zN,Pc.key,Prod.mk.injEq]at hd;obtain⟨_,r,hr,i,_⟩:=h.run g hd.2.1 (A:=A) (by rw[hd.1];exact hk);exact z r hr O
  ·rcases zK.1 g with g|g
   ·rcases h.hd hk g e with⟨u,B,r,hr,i⟩|⟨j,c,u,B,i,h4,h5⟩
    ·exact .inl ⟨u,B,r,by rw[w];exact ke _ hr,i⟩
    ·exact .inr ⟨j,c,u,by rw[s.tb];exact B,i,(ek _ _).2 h4,by unfold gS at h5 ⊢;rw[et];exact h5⟩
   ·simp only[zN]at g;subst g;exact .inl ⟨rfl,rfl,(x,m.toNat),by rw[w];simp,rfl,rfl⟩
  ·rw[zK];constructor
   ·rintro(g|g)
    ·exact g
    ·simp only[zN]at g;subst g;exact(C rfl).elim
   ·exact .inl
  ·obtain⟨p,g,q⟩:=h.ht k A hk j y ((ek j y).1 D);exact⟨p,ke _ g,q⟩
  ·rw[w]at hr;rcases zK.1 hr with hr|hr
   ·obtain⟨p,g,q⟩:=h.hr k A hk r hr;exact⟨p,ke _ g,q⟩
   ·simp only[zN]at hr;subst hr;exact⟨_,nI _ (zN.2 rfl),rfl,rfl,rfl⟩
theorem WI.mF (h:WI W)(hk:W.bX[k]?=some A){r:Nat×Nat}(hr:r∈A.runs):jf W.held k (-1) [(r.1:Int)*256]=true:=by
 refine Kx.2 ⟨λx e=>?_,by simp⟩;simp only[zN]at e;subst e;obtain⟨p,a,d,b,g⟩:=h.hr k A hk r hr;exact⟨p,a,Kr.2 ⟨d,b,O,(h.run a b (by rw[d];exact hk)).1⟩⟩
theorem WI.wu (h:WI W)(hk:W.bX[k]?=some A)(x:Int):WI (W.put k (Qo A x) W.sp (if KG A x=0 then uJ W.held k (-1) [x*256]else W.held)):=by
 have ga:=h.ga k A hk;obtain⟨⟨kp,g⟩,L,G,e1,e2⟩:=Is ga x;by_cases h0:KG A x=0
 ·rw[zC h0];obtain⟨r,hr,rfl,H⟩:=e2 h0;rw[h.ya (h.mF hk hr)];have d:∀p:Pc,dZ k (-1) [(r.1:Int)*256] p=true↔p.k=k/\p.cls = -1/\p.addr=r.1*256:=λp=>by
   rw[ZQ];simp only[zN];constructor
   ·rintro⟨a,b,c⟩;exact⟨a,b,O⟩
   ·rintro⟨a,b,c⟩;exact⟨a,b,O⟩
  refine h.step hk (St.kp g (h.ow k A hk) kp) (VG h.hk _) (λp s e=>?_) (λp E=>?_) (λi y K=>?_) λq m=>?_
  ·have z:=zI.1 s;have u:¬dZ k (-1) [(r.1:Int)*256] p=true:=by simpa using z.2
   rw[d]at u;rcases h.hd hk z.1 e with⟨h1,h2,q,m,w⟩|⟨j,c,h1,h2,w,J,C⟩
   ·refine .inl ⟨h1,h2,q,?_,w⟩;rw[H,zI];refine⟨m,?_⟩;have:q≠r:=by rintro rfl;exact u ⟨e,h1,w.1⟩
    simpa using this
   ·exact .inr ⟨j,c,h1,by rw[kp.tb];exact h2,w,(G _ _).2 J,by unfold gS at C ⊢;rw[L];exact C⟩
  ·rw[zI];have:dZ k (-1) [(r.1:Int)*256] p=false:=by
    apply mR.2;intro hx;exact E (ZQ.1 hx).1
   rw[this];simp
  ·obtain⟨p,s,F,B,D⟩:=h.ht k A hk i y ((G i y).1 K);refine⟨p,zI.2 ⟨s,?_⟩,F,B,D⟩;have:dZ k (-1) [(r.1:Int)*256] p=false:=by
    apply mR.2;intro hx;have:=((d p).1 hx).2.1;omega
   rw[this];rfl
  ·rw[H,zI]at m;obtain⟨p,s,F,B,D⟩:=h.hr k A hk q m.1;refine⟨p,zI.2 ⟨s,?_⟩,F,B,D⟩;have:dZ k (-1) [(r.1:Int)*256] p=false:=by
    apply mR.2;intro hx;have w:=((d p).1 hx).2.2;have J:=ga.gM q m.1;have C:=ga.gM r hr;have:q=r:=ga.gH m.1 hr (x:=q.1) O O O O;subst this;simp at m
   rw[this];rfl
 ·rw[zB h0,e1 h0];exact H6 hk h
theorem WI.tick (h:WI W)(hk:W.bX[k]?=some A):WI (W.put k (qO A) W.sp (yj (W.bX.set k (qO A)) W.held)):=by
 have ga:=h.ga k A hk;have t:=Le ga;have m:=(cW.1 hk).1;have d:(W.bX.set k (qO A))[k]?=some (qO A):=zL m;have bR:∀p∈W.held,p∈yj (W.bX.set k (qO A)) W.held↔(p.k=k->∀j:Nat,p.cls=j->fP (qO A) j (p.addr:Int)):=by
  intro p a;unfold yj;rw[zI];simp only[a,sf,nm,mj];by_cases hpk:p.k=k
  ·rw[hpk,d];simp only[true_implies];rcases h.hd hk a hpk with⟨h1,h2,r,hr,h3⟩|⟨j,c,h1,h2,h3,h4,h5⟩
   ·exact⟨λ_ j z=>O,λ_=>.inl h2⟩
   ·constructor
    ·intro hx i E;obtain rfl:i=j:=by omega
     rcases hx with hx|hx
     ·refine(t.tk i _).2 ⟨h4,λs=>?_⟩;rw[h5.2 s]at hx;cases hx
     ·rcases(G3 t.ob.ga).1 hx with⟨j',hj'⟩|⟨r,hr,e⟩
      ·obtain⟨y,e,hf⟩:=((t.tk j' _).1 hj').1.find ga;obtain⟨L,K,b⟩:=h4.find ga;rw[hf]at b;have:j'=i:=by
        have:=congrArg Prod.fst (Option.some.inj b);simp only at this;omega
       rw[←this];exact hj'
      ·rw[t.ob.runs]at hr;have:=ga.gM r hr;have J:=CZ ga hr (x:=r.1*256) (zD _) O;obtain⟨L,K,b⟩:=h4.find ga;rw[e,J]at b;have:=congrArg Prod.fst (Option.some.inj b);simp only at this;omega
    ·intro hx;by_cases hm:p.eL=true
     ·exact .inr ((G3 t.ob.ga).2 (.inl ⟨j,hx j h1⟩))
     ·exact .inl (by simpa using hm)
  ·constructor
   ·intro _ hx;exact(hpk hx).elim
   ·intro _;obtain⟨C,G,H⟩:=h.hf p a;rw[zk (Ne.symm hpk),G];rcases H with⟨h1,h2,_⟩|⟨j,c,_,_,_,h4,_⟩
    ·exact .inl h2
    ·exact .inr ((G3 (h.ga _ C G)).2 (.inl ⟨j,h4⟩))
 have sub:∀p,p∈yj (W.bX.set k (qO A)) W.held->p∈W.held:=λp a=>(zI.1 a).1;refine h.step hk (t.ob.st (h.ow k A hk)) (VG h.hk _) (λp a e=>?_) (λp u=>⟨sub p,λa=>(bR p a).2 λe=>(u e).elim⟩) (λj y F=>?_) λr hr=>?_
 ·have D:=(bR p (sub p a)).1 a e;rcases h.hd hk (sub p a) e with⟨h1,h2,r,hr,h3⟩|⟨j,c,h1,h2,h3,h4,h5⟩
  ·exact .inl ⟨h1,h2,r,by rw[t.ob.runs];exact hr,h3⟩
  ·have z:=D j h1;refine .inr ⟨j,c,h1,by rw[t.ob.kp.tb];exact h2,h3,z,?_⟩;rw[h5];exact⟨((t.tk j _).1 z).2,t.sub j _⟩
 ·obtain⟨p,a,w,B,g⟩:=h.ht k A hk j y ((t.tk j y).1 F).1;refine⟨p,(bR p a).2 λ_ i E=>?_,w,B,g⟩;obtain rfl:i=j:=by omega
  rw[g];exact F
 ·rw[t.ob.runs]at hr;obtain⟨p,a,w,B,g⟩:=h.hr k A hk r hr;exact⟨p,(bR p a).2 λ_ i E=>O,w,B,g⟩
theorem WI.qj (h:WI W){p:Pc}(hp:p∈W.held)(hk:W.bX[p.k]?=some A){x:Nat}(h1:p.addr<=x)(h2:x<p.addr+p.size):A.f (x/256)=1:=by
 have ga:=h.ga _ A hk;rcases h.hd hk hp rfl with⟨_,_,r,hr,e1,e2⟩|⟨j,c,_,hc,e1,ht,_⟩
 ·exact(ga.jj hr O O).1
 ·obtain⟨d,m,a,b⟩:=ht;have:d=c:=Option.some.inj (a.1.symm.trans hc);subst this;have g:=ga.cE j d m a;obtain⟨l,s,i,u,w,e,_⟩:=(Vq g).1 b;have y:p.addr=at_ d s i:=Int.ofNat.inj e;have:=Ht g.pos w (s:=s) (x:=x) O O;exact(ga.used a (zG u) this.1 this.2).1
theorem fP.lt (h:GA A){j:Nat}{x:Int}(hx:fP A j x):∃y:Nat,x=y/\y<262144:=by
 obtain⟨c,e,d,r⟩:=hx;have a:=h.cE j c e d;obtain⟨l,s,i,m,g,rfl,w⟩:=(Vq a).1 r;have b:=Ht a.pos (s:=s) (x:=at_ c s i) g (zD _) (by have:=a.pos;omega);have u:=(h.used d (zG m) b.1 b.2).1;have:=h.pg.lt (p:=at_ c s i/256) O;have:=h.pg.n2;exact⟨_,rfl,O⟩
theorem WI.jC (h:WI W){p:Pc}(hp:p∈W.held):p.addr<262144/\p.addr+p.size<=270000:=by
 obtain⟨A,g,m⟩:=h.hf p hp;have ga:=h.ga _ A g;have x:=ga.pg.n2;rcases m with⟨_,_,r,hr,h1,h2⟩|⟨j,c,_,hc,h2,h3,_⟩
 ·have u:=ga.fit hr;have w:=ga.gM r hr;omega
 ·obtain⟨y,e,s⟩:=h3.lt ga;obtain⟨i,d,a,_⟩:=h3;have:i=c:=Option.some.inj (a.1.symm.trans hc);subst this;have b:=(ga.cE j _ d a).ok;unfold bZ.ok at b;omega
theorem ET:∀(N:Nat) (l:List Nat),l.Nodup->(∀x∈l,x<N)->l.length<=N
 | 0,l,_,h=>by
  cases l with
  | nil=>simp
  | cons x l=>have:=h x aA;omega
 | N+1,l,hn,h=>by
  have g:=ET N (l.filter (· != N)) (hn.sublist sX) λx b=>by
   have b:=zI.1 b;have:=h x b.1;have:x≠N:=by simpa using b.2
   omega
  have d:=List.length_eq_countP_add_countP (l:=l) (p:=(· != N));have i:l.countP (λa=>¬(a != N)=true)<=1:=by
   have e:l.countP (λa=>¬(a != N)=true)=l.count N:=by
    unfold List.count;apply List.countP_congr;intro x _;simp
   rw[e];exact Am.1 hn N
  rw[wN]at d;omega
theorem WI.apart (h:WI W){p q:Pc}(hp:p∈W.held)(hq:q∈W.held){x:Nat}(p1:p.addr<=x)(p2:x<p.addr+p.size)(q1:q.addr<=x)(q2:x<q.addr+q.size):p=q:=by
 obtain⟨A,m,H⟩:=h.hf p hp;obtain⟨B,y,E⟩:=h.hf q hq;have e1:=h.qj hp m p1 p2;have e2:=h.qj hq y q1 q2;have z:p.k=q.k:=h.one (x/256) p.k q.k A B m y O O;rw[←z,m]at y;cases y;have ga:=h.ga _ A m;have J:=ga.tb;have own:∀{r:Pc},Hd A r->r.addr<=x->x<r.addr+r.size->(r.cls = -1/\A.ow (x/256)=41/\∃u∈A.runs,r.addr=u.1*256/\u.1<=x/256/\x/256<u.1+u.2) ∨
  ∃(j:Nat) (c:bZ) (b:List cG) (l:Nat) (s:cG) (i:Nat),r.cls=j/\A.ow (x/256)=j+1/\Cl A j c b/\b[l]?=some s/\i<c.n/\r.addr=at_ c s i/\r.size=c.size:=by
  intro r hr r1 r2;rcases hr with⟨c1,_,u,hu,c2,c3⟩|⟨j,c,c1,c2,c3,c4,_⟩
  ·exact .inl ⟨c1,(ga.jj hu O O).2,u,hu,c2,O,O⟩
  ·obtain⟨d,b,a,K⟩:=c4;have:d=c:=Option.some.inj (a.1.symm.trans c2);subst this;have D:=ga.cE j d b a;obtain⟨l,s,i,F,C,e,_⟩:=(Vq D).1 K;have L:r.addr=at_ d s i:=Int.ofNat.inj e;have g:=Ht D.pos (s:=s) (x:=x) C O O;exact .inr ⟨j,d,b,l,s,i,c1,(ga.used a (zG F) g.1 g.2).2,a,F,C,L,c3⟩
 refine h.unique hp hq ?_;rcases own H p1 p2 with⟨a1,a2,u,hu,a3,a4,a5⟩|⟨j,c,b,l,s,i,a1,a2,a3,a4,a5,a6,a7⟩
 ·rcases own E q1 q2 with⟨b1,b2,w,hw,b3,b4,b5⟩|⟨j',d,ss',l',s',i',b1,b2,b3,b4,b5,b6,b7⟩
  ·have:=ga.gH hu hw a4 a5 b4 b5;subst this;unfold Pc.key;rw[z,a1,b1,a3,b3]
  ·have:=b3.lt;omega
 ·rcases own E q1 q2 with⟨b1,b2,w,hw,b3,b4,b5⟩|⟨j',d,ss',l',s',i',b1,b2,b3,b4,b5,b6,b7⟩
  ·have:=a3.lt;omega
  ·have G:j=j':=by omega
   subst G;obtain⟨rfl,rfl⟩:=a3.eq b3;have:=V0 (ga.cE j c b a3) a4 b4 a5 b5 (x:=x) O O O O;unfold Pc.key;rw[z,a1,b1,a6,b6,this.2.1,this.2.2]
theorem WI.size_pos (h:WI W){p:Pc}(hp:p∈W.held):8<=p.size/\p.size%8=0:=by
 obtain⟨A,e,i⟩:=h.hf p hp;have ga:=h.ga _ A e;rcases i with⟨_,_,r,hr,h1,h2⟩|⟨j,c,_,hc,h2,h3,_⟩
 ·have m:=ga.gM r hr;omega
 ·obtain⟨g,d,a,_⟩:=h3;have:g=c:=Option.some.inj (a.1.symm.trans hc);subst this;have b:=(ga.cE j _ d a).ok;unfold bZ.ok at b;omega
theorem WI.len (h:WI W):W.held.length<=262144:=by
 have w:(W.held.map (·.addr)).Nodup:=by
  have g:=l3.1 h.hk;refine l3.2 λi j s r d e=>?_;have b:i<W.held.length:=by simpa using s
  have a:j<W.held.length:=by simpa using r
  refine g i j (by simpa using b) (by simpa using a) d ?_;simp only[rX]at e ⊢;have s1:=(h.size_pos (kg b)).1;have s2:=(h.size_pos (kg a)).1;rw[h.apart (kg b) (kg a) (x:=W.held[i].addr) (zD _) O O O]
 have:=ET 262144 _ w λx u=>by
  obtain⟨p,m,rfl⟩:=zE.1 u;exact(h.jC m).1
 simpa using this
end Go.Ar
namespace Go.Ar
open Go.Vc (bW dB cS)
def lQ (live:List (Int×Bk))(k x:Int):Nat:=live.countP λe=>e.2.2.2.1==k&&e.1==x
def k6 (ls:List Li)(k x:Int):Nat:=if 0<=k then(ls.getD k.toNat ig).os.count x else 0
def lD (bs:List Bt)(k x:Int):Nat:=(bs.map λb=>if(b.1:Int)=k then b.2.count x else 0).sum
def jy (p:Option Ph)(k x:Int):Nat:=match p with
 | some (.dD s _)=>if k = -1/\x=s*256 then 1 else 0
 | _=>0
def gG (g:Th)(k x:Int):Nat:=k6 g.ls k x+lD g.bP k x+jy g.ph k x
def qh (H:Hw)(k x:Int):Nat:=lQ H.live k x+(H.bQ.map λg=>gG g k x).sum
def Um (held:List Pc)(k x:Int):Prop:=∃p∈held,p.eL=false/\p.cls=k/\(p.addr:Int)=x
open Classical in
noncomputable def kI (held:List Pc)(k x:Int):Nat:=if Um held k x then 1 else 0
theorem DS (held:List Pc)(k x:Int):kI held k x<=1:=by unfold kI;split<;>omega
theorem By {held:List Pc}{k x:Int}(h:1<=kI held k x):Um held k x:=by
 unfold kI at h;split at h
 ·assumption
 ·omega
theorem Vi {held:List Pc}{k x:Int}(h:Um held k x):kI held k x=1:=by unfold kI;rw[zC h]
theorem Q1 {held:List Pc}{k x:Int}(h:¬Um held k x):kI held k x=0:=by unfold kI;rw[zB h]
theorem EN {l:List Int}(hn:l.Nodup)(x:Int):l.count x=if x∈l then 1 else 0:=by
 split
 ·rename_i h;have a:=Am.1 hn x;have b:=Ay.2 h;omega
 ·rename_i h;exact xf.2 h
theorem BR {held held':List Pc}{cl:Int}{l:List Int}(hn:l.Nodup)(h0:∀x∈l,¬Um held cl x)(h:∀k x,Um held' k x↔Um held k x\/(k=cl/\x∈l))(k x:Int):kI held' k x=kI held k x+(if cl=k then l.count x else 0):=by
 by_cases hk:cl=k
 ·subst hk;rw[zC rfl,EN hn];by_cases hx:x∈l
  ·rw[zC hx,Q1 (h0 x hx),Vi ((h _ _).2 (.inr ⟨rfl,hx⟩))]
  ·rw[zB hx,jY];by_cases hu:Um held cl x
   ·rw[Vi hu,Vi ((h _ _).2 (.inl hu))]
   ·rw[Q1 hu,Q1 λa=>by rcases(h _ _).1 a with a|⟨_,a⟩;exact hu a;exact hx a]
 ·rw[zB hk,jY];by_cases hu:Um held k x
  ·rw[Vi hu,Vi ((h _ _).2 (.inl hu))]
  ·rw[Q1 hu,Q1 λa=>by rcases(h _ _).1 a with a|⟨a,_⟩;exact hu a;exact hk a.symm]
theorem B7 {held held':List Pc}{cl:Int}{l:List Int}(hn:l.Nodup)(h0:∀x∈l,Um held cl x)(h:∀k x,Um held' k x↔Um held k x/\¬(k=cl/\x∈l))(k x:Int):kI held k x=kI held' k x+(if cl=k then l.count x else 0):=by
 by_cases hk:cl=k
 ·subst hk;rw[zC rfl,EN hn];by_cases hx:x∈l
  ·rw[zC hx,Vi (h0 x hx),Q1 λa=>((h _ _).1 a).2 ⟨rfl,hx⟩]
  ·rw[zB hx,jY];by_cases hu:Um held cl x
   ·rw[Vi hu,Vi ((h _ _).2 ⟨hu,λa=>hx a.2⟩)]
   ·rw[Q1 hu,Q1 λa=>hu ((h _ _).1 a).1]
 ·rw[zB hk,jY];by_cases hu:Um held k x
  ·rw[Vi hu,Vi ((h _ _).2 ⟨hu,λa=>hk a.1.symm⟩)]
  ·rw[Q1 hu,Q1 λa=>hu ((h _ _).1 a).1]
theorem Fg {α:Type}(f:α->Nat):∀{l:List α} {t:Nat} {g:α} (g':α),l[t]?=some g->((l.set t g').map f).sum+f g=(l.map f).sum+f g'
 | [],t,g,g',h=>by simp at h
 | a::l,0,g,g',h=>by
  simp only[yJ,Option.some.injEq]at h;subst h;simp only[List.set_cons_zero,zT,nB];omega
 | a::l,t+1,g,g',h=>by
  have:=Fg f (l:=l) (t:=t) g' (by simpa using h);simp only[q9,zT,nB];omega
theorem AK {α:Type}(f:α->Nat){l:List α}{g:α}(h:g∈l):f g<=(l.map f).sum:=by
 induction l with
 | nil=>simp at h
 | cons a l ih=>
  simp only[zT,nB];rcases zW.1 h with rfl|h
  ·omega
  ·have:=ih h;omega
theorem GN (ls:List Li)(k:Nat)(x:Int):k6 ls (k:Int) x=(ls.getD k ig).os.count x:=by
 unfold k6;rw[zC O,dE]
theorem Fb {ls:List Li}{j:Nat}(l:Li)(k:Nat)(h:j<ls.length):(ls.set j l).getD k ig=if k=j then l else ls.getD k ig:=by
 rw[zO,mA];by_cases hkj:k=j
 ·subst hkj;simp[h]
 ·rw[zB hkj,zB (Ne.symm hkj),zO]
theorem MZ {ls:List Li}{j:Nat}(l:Li)(h:j<ls.length)(k x:Int):k6 (ls.set j l) k x+(if(j:Int)=k then(ls.getD j ig).os.count x else 0)=k6 ls k x+(if(j:Int)=k then l.os.count x else 0):=by
 by_cases hk:0<=k
 ·obtain⟨k,rfl⟩:=za hk;rw[GN,GN,Fb l k h];by_cases hjk:j=k
  ·subst hjk;simp;omega
  ·have:¬(j:Int)=(k:Int):=by omega
   rw[zB (Ne.symm hjk),zB this,zB this]
 ·unfold k6;rw[zB hk,zB hk,zB O,zB O]
theorem Vj (k x:Int):lD [] k x=0:=rfl
theorem Ks (b:Bt)(bs:List Bt)(k x:Int):lD (b::bs) k x=(if(b.1:Int)=k then b.2.count x else 0)+lD bs k x:=by
 unfold lD;rw[zT,nB]
theorem Da (a b:List Bt)(k x:Int):lD (a++b) k x=lD a k x+lD b k x:=by
 unfold lD;rw[kC,List.sum_append]
theorem Fo {f:bZ->Li->List Int×Li}(hf:∀c l x,(f c l).1.count x+(f c l).2.os.count x=l.os.count x){tb:List bZ}{ls:List Li}(hl:ls.length=tb.length)(k x:Int):lD (QW f tb ls) k x+k6 (QS f tb ls) k x=k6 ls k x:=by
 have key:∀n,n<=tb.length->lD ((List.range n).filterMap λk=>match tb[k]?,ls[k]? with
  | some c,some l=>if(f c l).1=[]then none else some (k,(f c l).1)
  | _,_=>none) k x=if 0<=k/\k<(n:Int)then(match tb[k.toNat]?,ls[k.toNat]? with
  | some c,some l=>(f c l).1.count x
  | _,_=>0)else 0:=by
  intro n
  induction n with
  | zero=>intro _;rw[zB O];rfl
  | succ n i=>
   intro hn;have i:=i O;rw[qm,uP,Da,i];have d:tb[n]?=some tb[n]:=cV O;have a:ls[n]?=some ls[n]:=cV O;have e:lD ([n].filterMap λk=>match tb[k]?,ls[k]? with
    | some c,some l=>if(f c l).1=[]then none else some (k,(f c l).1)
    | _,_=>none) k x=if(n:Int)=k then(f tb[n] ls[n]).1.count x else 0:=by
    rw[y7,d,a];simp only;by_cases he:(f tb[n] ls[n]).1=[]
    ·rw[zC he,he];simp[Vj]
    ·rw[zB he];simp only[List.filterMap_nil,Ks,Vj,jY]
   rw[e];by_cases b:0<=k/\k<(n:Int)
   ·rw[zC b,zB (show ¬(n:Int)=k by omega),jY,zC (show 0<=k/\k<((n+1:Nat):Int)from⟨b.1,O⟩)]
   ·rw[zB b,zH];by_cases g:(n:Int)=k
    ·subst g;rw[zC rfl,zC (show(0:Int)<=(n:Int)/\(n:Int)<((n+1:Nat):Int)from⟨O,O⟩),dE,d,a]
    ·rw[zB g,zB O]
 have b:=key tb.length (zD _);have e:QW f tb ls=(List.range tb.length).filterMap λk=>match tb[k]?,ls[k]? with
  | some c,some l=>if(f c l).1=[]then none else some (k,(f c l).1)
  | _,_=>none:=rfl
 rw[e,b];by_cases hk:0<=k
 ·obtain⟨k,rfl⟩:=za hk;rw[GN,GN,dE];by_cases hkl:k<tb.length
  ·have d:tb[k]?=some tb[k]:=cV hkl;have a:ls[k]?=some ls[k]:=cV O;rw[zC ⟨O,O⟩,d,a];simp only;have:(QS f tb ls).getD k ig=(f tb[k] ls[k]).2:=by
    unfold QS;rw[zO,A5,d,a];rfl
   rw[this,zO,a];exact hf _ _ _
  ·rw[zB O,zH];have b:(QS f tb ls).getD k ig=ig:=by
    unfold QS;rw[zO,zV (by rw[List.length_zipWith];omega)];rfl
   have g:ls.getD k ig=ig:=by rw[zO,zV O];rfl
   rw[b,g]
 ·rw[zB O,zH];unfold k6;rw[zB hk,zB hk]
theorem Az (m:Nat)(l:Li)(x:Int):(gp m l).1.count x+(gp m l).2.os.count x=l.os.count x:=by
 show(l.os.take m).count x+(l.os.drop m).count x=_;rw[←vH,nu]
theorem Jp (c:bZ)(l:Li)(x:Int):(KC c l).1.count x+(KC c l).2.os.count x=l.os.count x:=Az _ l x
theorem O6 (c:bZ)(l:Li)(x:Int):(ZC c l).1.count x+(ZC c l).2.os.count x=l.os.count x:=Az _ l x
theorem MT (c:bZ)(y:Int)(l:Li)(hl:l.os.length<=255)(x:Int):(dJ c y l).1.count x+(dJ c y l).2.os.count x=l.os.count x + [y].count x:=by
 have a:(eD [y] l).os=l.os++[y]:=by
  unfold eD;rw[zB aE]
 unfold dJ;rw[zB O];split
 ·rw[a,List.count_nil,zH,vH]
 ·rw[Az];have:(mb c (eD [y] l)).os=(eD [y] l).os:=by unfold mb;split<;>rfl
  rw[this,a,vH]
theorem DV {c:bZ}{l l':Li}{y:Int}(h:QX c l=(some y,l'))(x:Int):l.os.count x=l'.os.count x + [y].count x:=by
 unfold QX at h;split at h
 ·simp at h
 ·rename_i z hz;cases h;have:l.os=l.os.dropLast++[y]:=by
   obtain⟨b,a⟩:=List.getLast?_eq_some_iff.1 hz;rw[a];simp
  conv=>lhs;rw[this]
  rw[vH]
theorem Rt {c:bZ}{l l':Li}(h:QX c l=(none,l')):l.os=[]/\l'.os=[]:=by
 unfold QX at h;split at h
 ·rename_i hz;have:l.os=[]:=by simpa using hz
  cases h;refine⟨this,?_⟩;split<;>exact this
 ·simp at h
theorem yX {live:List (Int×Bk)}{x:Int}(b:Bk)(h:bW live x=none)(k y:Int):lQ (dB live x b) k y=lQ live k y+(if b.2.2.1=k then[x].count y else 0):=by
 have a:live.any (λe=>e.1==x)=false:=by
  rw[mh];intro e he hx;unfold bW at h;rw[qU,ny]at h;exact h e he hx
 unfold dB;rw[a,zB aA];unfold lQ;rw[List.countP_append]
 congr 1
 rw[vX,List.countP_nil,zH];by_cases h1:b.2.2.1=k
 ·by_cases h2:x=y
  ·subst h2;simp[h1]
  ·simp[h1,h2]
 ·simp[h1]
theorem Gn {live:List (Int×Bk)}{x:Int}{b:Bk}(h:bW live x=none){e:Int×Bk}:e∈dB live x b↔e∈live\/e=(x,b):=by
 have a:live.any (λe=>e.1==x)=false:=by
  rw[mh];intro e he hx;unfold bW at h;rw[qU,ny]at h;exact h e he hx
 unfold dB;rw[a,zB aA,zK,zN]
theorem Gg {live:List (Int×Bk)}{x:Int}{e:Int×Bk}:e∈cS live x↔e∈live/\e.1≠x:=by
 unfold cS;rw[zI];simp
theorem AW:∀{live:List (Int×Bk)} {x:Int} {b:Bk},(live.map (·.1)).Nodup->bW live x=some b->∀k y,lQ live k y=lQ (cS live x) k y+(if b.2.2.1=k then[x].count y else 0)
 | [],x,b,_,h,_,_=>by simp[bW]at h
 | e::l,x,b,hn,h,k,y=>by
  rw[zT,zr]at hn;by_cases he:e.1=x
  ·have hb:e.2=b:=by
    unfold bW at h;rw[List.find?_cons_of_pos (by simpa using he)]at h;simpa using h
   have hd:cS (e::l) x=l:=by
    unfold cS;rw[uq (by simpa using he),po];intro a ha;have:a.1≠x:=λi=>hn.1 (zE.2 ⟨a,ha,i.trans he.symm⟩);simpa using this
   rw[hd];unfold lQ;rw[vX,hb,he]
   congr 1
   by_cases h1:b.2.2.1=k
   ·by_cases h2:x=y
    ·subst h2;simp[h1]
    ·simp[h1,h2]
   ·simp[h1]
  ·have g:bW l x=some b:=by
    unfold bW at h ⊢
    rwa [List.find?_cons_of_neg (by simpa using he)]at h
   have d:=AW hn.2 g k y;have hd:cS (e::l) x=e::cS l x:=by
    unfold cS;rw[tE (by simpa using he)]
   rw[hd];unfold lQ at d ⊢;rw[vX,vX,d];omega
theorem Ex {live:List (Int×Bk)}{e:Int×Bk}(h:e∈live):1<=lQ live e.2.2.2.1 e.1:=by
 unfold lQ;exact List.countP_pos_iff.2 ⟨e,h,by simp⟩
structure jr (s s':Sp):Prop where
 l:s'.st.length=s.st.length
 z:∀p,gf s'.st p=0↔gf s.st p=0
 w:s'.wd=s.wd
def ij (m:Nat)(g:Th):Prop:=match g.ph with
 | none=>g.bP=[]
 | some (.take k)=>g.bP=[]/\k<m
 | some (.cH k w)=>g.bP=[]/\k<m/\(g.li k).os=[]/\1<=w/\w<=32
 | some (.cJ k w)=>g.bP=[]/\k<m/\(g.li k).os=[]/\1<=w/\w<=32
 | some (.grow k w)=>g.bP=[]/\k<m/\(g.li k).os=[]/\1<=w/\w<=32
 | some .fill=>∃k x xs,g.bP=[(k,x::xs)]/\k<m/\(g.li k).os=[]/\xs.length<=128
 | some (.eI n)=>g.bP=[]/\1<=n/\n<=64
 | some (.find x)=>g.bP=[]/\iC x
 | some (.put k x)=>g.bP=[(k,[x])]/\k<m
 | some .back=>g.bP≠[]
 | some (.dD _ _)=>g.bP=[]
 | some .drain=>g.bP=[]
structure sC (m:Nat) (g:Th):Prop where
 ll:g.ls.length=m
 lo:∀l∈g.ls,fK l/\l.os.length<=128
 hb:∀b∈g.bP,b.1<m/\b.2≠[]/\b.2.length<=256
 hl:g.bP.length<=41
 ph:ij m g
def Lv (held:List Pc)(e:Int×Bk):Prop:=e.2.1=e.1/\∃p∈held,p.eL=false/\p.cls=e.2.2.2.1/\(p.addr:Int)=e.1/\e.2.2.1=(p.size:Int)/\e.2.2.2.2=(p.k:Int)
def Gv (held:List Pc)(s a:Int):Prop:=∃p∈held,p.eL=false/\p.cls = -1/\(p.addr:Int)=s*256/\a=(p.k:Int)
structure HI (H:Hw) (held:List Pc) (s0:Sp):Prop where
 wi:WI ⟨H.tb,s0,H.bX,held⟩
 mI:jr s0 H.sp
 cn:∀k x,qh H k x=kI held k x
 lk:(H.live.map (·.1)).Nodup
 lv:∀e∈H.live,Lv held e
 gv:∀g∈H.bQ,∀s a,g.ph=some (.dD s a)->Gv held s a
 th:∀g∈H.bQ,sC H.tb.length g
 ok:∀c∈H.tb,c.ok
 a1:1<=H.bX.length
 sl:H.sp.st.length=H.cf.aF
variable {H:Hw}{held:List Pc}{s0:Sp}{t k:Nat}{g:Th}{A:AR}
theorem jr.refl (s:Sp):jr s s:=⟨rfl,λ_=>Iff.rfl,rfl⟩
theorem HI.apart (h:HI H held s0){p q:Pc}(hp:p∈held)(hq:q∈held){x:Nat}(p1:p.addr<=x)(p2:x<p.addr+p.size)(q1:q.addr<=x)(q2:x<q.addr+q.size):p=q:=h.wi.apart hp hq p1 p2 q1 q2
theorem WI.same {W:Wd}(h:WI W){p q:Pc}(hp:p∈W.held)(hq:q∈W.held)(e:p.addr=q.addr):p=q:=by
 have a:=(h.size_pos hp).1;have b:=(h.size_pos hq).1;exact h.apart hp hq (x:=p.addr) (zD _) O O O
theorem WI.um {W:Wd}(h:WI W){p:Pc}(hp:p∈W.held){k x:Int}(hu:Um W.held k x)(e:(p.addr:Int)=x):p.eL=false/\p.cls=k:=by
 obtain⟨q,d,a,b,g⟩:=hu;obtain rfl:=h.same hp d O;exact⟨a,b⟩
theorem HI.mJ (h:HI H held s0){e:Int×Bk}(he:e∈H.live):Um held e.2.2.2.1 e.1:=by
 obtain⟨_,p,d,a,b,g,_⟩:=h.lv e he;exact⟨p,d,a,b,g⟩
theorem HI.oL (h:HI H held s0){g:Th}(hg:g∈H.bQ)(k x:Int):gG g k x<=kI held k x:=by
 rw[←h.cn];unfold qh;have:=AK (λg=>gG g k x) hg;omega
theorem HI.qd (h:HI H held s0){g:Th}(hg:g∈H.bQ){k x:Int}(hc:1<=gG g k x):Um held k x:=By (ze hc (h.oL hg k x))
theorem HI.lz (h:HI H held s0){g:Th}(hg:g∈H.bQ){k x:Int}(hc:1<=gG g k x):bW H.live x=none:=by
 cases hm:bW H.live x with
 | none=>rfl
 | some b=>
  have d:=Vf hm;have j:=h.qd hg hc;obtain⟨q,r,w,i,s⟩:=h.mJ d;have m:k=b.2.2.1:=by
   have:=(h.wi.um (W:=⟨H.tb,s0,H.bX,held⟩) r j s).2;exact this.symm.trans i
  have p:=Ex d;have e:=h.cn k x;have u:=DS held k x;have a:=AK (λg=>gG g k x) hg;simp only at p a;unfold qh at e;rw[m]at e u a hc;omega
theorem HI.tn (h:HI H held s0){x:Int}(hn:∀k,¬Um held k x):bW H.live x=none:=by
 cases hm:bW H.live x with
 | none=>rfl
 | some b=>exact(hn _ (h.mJ (Vf hm))).elim
theorem HI.fo (h:HI H held s0)(hg:H.bQ[t]?=some g){g':Th}{live':List (Int×Bk)}{s0' sp':Sp}{ars':List AR}{held':List Pc}(wi:WI ⟨H.tb,s0',ars',held'⟩)(mI:jr s0' sp')(hsl:sp'.st.length=H.sp.st.length)(hl:ars'.length=H.bX.length)
 (sub:∀p∈held',p.eL=false->p∈held\/∀k,¬Um held k (p.addr:Int))
 (cn:∀k x,lQ live' k x+gG g' k x+kI held k x=lQ H.live k x+gG g k x+kI held' k x)
 (lk:(live'.map (·.1)).Nodup) (lv:∀e∈live',e∈H.live\/Lv held' e) (gv:∀s a,g'.ph=some (.dD s a)->Gv held' s a) (th:sC H.tb.length g') :
 HI {H with live:=live',sp:=sp',bX:=ars',bQ:=H.bQ.set t g'} held' s0':=by
 have u:∀k x,qh {H with live:=live',sp:=sp',bX:=ars',bQ:=H.bQ.set t g'} k x=kI held' k x:=λk x=>by
  have b:=h.cn k x;have r:=cn k x;have i:=Fg (λg=>gG g k x) g' hg;unfold qh at b ⊢;simp only at i ⊢;omega
 have G:=(cW.1 hg).1;have bR:∀p∈held,p.eL=false->Um held' p.cls (p.addr:Int)->p∈held':=λp m D ⟨q,B,b,r,i⟩=>by
  rcases sub q B b with hs|hs
  ·have:q=p:=h.wi.same (W:=⟨H.tb,s0,H.bX,held⟩) hs m O;rw[←this];exact B
  ·exact(hs p.cls ⟨p,m,D,rfl,i.symm⟩).elim
 refine⟨wi,mI,u,lk,λe A=>?_,λw d s a m=>?_,λw d=>?_,h.ok,by simp only;rw[hl];exact h.a1,hsl.trans h.sl⟩
 ·rcases lv e A with he'|he'
  ·obtain⟨E,p,m,b,r,i,z⟩:=h.lv e he';refine⟨E,p,bR p m b ?_,b,r,i,z⟩;rw[r,i];apply By;rw[←u];have:1<=lQ live' e.2.2.2.1 e.1:=Ex A;unfold qh;simp only;omega
  ·exact he'
 ·rcases List.mem_iff_getElem?.1 d with⟨j,hj⟩;rcases KT hj with⟨rfl,rfl,_⟩|⟨hne,hj'⟩
  ·exact gv s a m
  ·obtain⟨p,y,b,r,i,z⟩:=h.gv w (zG hj') s a m;refine⟨p,bR p y b ?_,b,r,i,z⟩;rw[r,i];apply By;rw[←u];have C:=AK (λg=>gG g (-1) (s*256)) d;have F:1<=gG w (-1) (s*256):=by unfold gG;rw[m];simp[jy]
   unfold qh;simp only at C ⊢;omega
 ·rcases List.mem_iff_getElem?.1 d with⟨j,hj⟩;rcases KT hj with⟨rfl,rfl,_⟩|⟨hne,hj'⟩
  ·exact th
  ·exact h.th w (zG hj')
theorem HI.kj (h:HI H held s0)(hg:H.bQ[t]?=some g){g':Th}{live':List (Int×Bk)}(cn:∀k x,lQ live' k x+gG g' k x=lQ H.live k x+gG g k x)(lk:(live'.map (·.1)).Nodup)(lv:∀e∈live',e∈H.live\/Lv held e)
 (gv:∀s a,g'.ph=some (.dD s a)->Gv held s a) (th:sC H.tb.length g'):HI {H with live:=live',bQ:=H.bQ.set t g'} held s0:=
 h.fo hg h.wi h.mI rfl rfl (λp b _=>.inl b) (λk x=>by have:=cn k x;omega) lk lv gv th
theorem MV {A:AR}{x:Int}:GZ A x=true↔0<=x/\A.f x.toNat≠0:=by
 unfold GZ AR.f gf;simp
theorem WI.owner {W:Wd}(h:WI W){p:Pc}(hp:p∈W.held){x:Nat}(h1:p.addr<=x)(h2:x<p.addr+p.size):XP W.bX (x:Int)=(p.k:Int):=by
 obtain⟨A,b,_⟩:=h.hf p hp;have g:=h.qj hp b h1 h2;have a:=(cW.1 b).1;have own:∀(j:Nat) (B:AR),W.bX[j]?=some B->(GZ B ((x:Int)/256)=true↔j=p.k):=λj B d=>by
  have e:((x:Int)/256).toNat=x/256:=by omega
  rw[MV,e];constructor
  ·rintro⟨_,hf⟩;exact h.one (x/256) j p.k B A d b hf O
  ·rintro rfl;rw[b]at d;cases d;exact⟨O,O⟩
 unfold XP;rw[zB O];have hf:W.bX.findIdx? (λA=>GZ A ((x:Int)/256))=some p.k:=by
  rw[m5];refine⟨a,(own p.k _ (cV a)).2 rfl,λj i=>?_⟩;have:=own j W.bX[j] (cV O);intro hx;have:=this.1 hx;omega
 rw[hf]
theorem HI.owner (h:HI H held s0){p:Pc}(hp:p∈held){x:Nat}(h1:p.addr<=x)(h2:x<p.addr+p.size):XP H.bX (x:Int)=(p.k:Int):=h.wi.owner (W:=⟨H.tb,s0,H.bX,held⟩) hp h1 h2
theorem HI.oU (h:HI H held s0){p:Pc}(hp:p∈held):XP H.bX (p.addr:Int)=(p.k:Int):=h.owner hp (zD _) (by have:=(h.wi.size_pos (W:=⟨H.tb,s0,H.bX,held⟩) hp).1;omega)
theorem HI.i63 (h:HI H held s0){k x:Int}(hu:Um held k x):iC x/\0<=x/\0<=XP H.bX x:=by
 obtain⟨p,a,_,_,rfl⟩:=hu;have:=(h.wi.jC (W:=⟨H.tb,s0,H.bX,held⟩) a).1;refine⟨by unfold iC;omega,O,?_⟩;rw[h.oU a];omega
end Go.Ar
namespace Go.Ar
open Go.Vc (bW dB cS)
open Go.Bu (Zb)
structure KS (s s':Sp):Prop where
 l:s'.st.length=s.st.length
 k:∀p,gf s.st p≠0->gf s'.st p≠0/\∀w,w/32=p->s'.wd w=s.wd w
theorem KS.refl (s:Sp):KS s s:=⟨rfl,λp a=>⟨a,λ_ _=>rfl⟩⟩
theorem KS.trans {a b c:Sp}(h:KS a b)(k:KS b c):KS a c:=⟨k.l.trans h.l,λp d=>⟨(k.k p (h.k p d).1).1,λw e=>((k.k p (h.k p d).1).2 w e).trans ((h.k p d).2 w e)⟩⟩
variable {s s' sp sp' s0 s0':Sp}{A B:AR}{k:Nat}
theorem jr.mz (h:jr s s'):s'.st.map (λx=>decide (x=0))=s.st.map λx=>decide (x=0):=by
 refine zo λi=>?_;rw[zg,zg];have a:=h.z i;unfold gf at a;rw[zO,zO]at a;by_cases hi:i<s.st.length
 ·have b:i<s'.st.length:=by rw[h.l];exact hi
  rw[cV hi,cV b]at a ⊢;simp only[pC]at a;simp[a]
 ·have d:=h.l;rw[zV O,zV O]
theorem NF {l l':List Nat}(h:l'.map (λx=>decide (x=0))=l.map λx=>decide (x=0))(a m:Nat)(f:Bool->Bool):((l'.drop a).take m).any (λx=>f (decide (x=0)))=((l.drop a).take m).any λx=>f (decide (x=0)):=by
 have e:∀l:List Nat,((l.drop a).take m).any (λx=>f (decide (x=0)))=(((l.map λx=>decide (x=0)).drop a).take m).any f:=λl=>by
  rw[←List.map_drop,←List.map_take,List.any_map];rfl
 rw[e,e,h]
theorem jr.fB (h:jr s s')(a m:Int):fB s' a m=fB s a m:=by
 unfold Go.Ar.fB;rw[h.l];have:=NF h.mz a.toNat m.toNat (λb=>!b);have e:∀l:List Nat,l.any (λx=>x != 0)=l.any λx=>!decide (x=0):=λl=>by
  refine congrArg l.any (funext λx=>?_);cases x<;>rfl
 rw[e,e,this]
theorem jr.set (h:jr s s'){a m v:Nat}(hl:a+m<=s.st.length):jr (s.set a m v) (s'.set a m v):=by
 refine⟨by simp[Sp.set,Kv,h.l],λp=>?_,?_⟩
 ·show gf (gg s'.st a (a+m) v) p=0↔gf (gg s.st a (a+m) v) p=0;rw[uD (by rw[h.l];exact hl),uD hl];split
  ·exact Iff.rfl
  ·exact h.z p
 ·show(λw=>if a*32<=w/\w<(a+m)*32 then 0 else s'.wd w)=_
  rw[h.w];rfl
theorem Pr {n:Nat}{a m:Int}(h:Zb n a m=true):a.toNat+m.toNat<=n:=by
 by_cases h0:0<=a/\0<=m
 ·obtain⟨a,rfl⟩:=za h0.1;obtain⟨m,rfl⟩:=za h0.2;rw[dE,dE];exact(V3.1 h).2
 ·exfalso;unfold Zb at h;simp at h;omega
theorem jr.fT (h:jr s s')(a m:Int):jr (fT s a m) (fT s' a m):=by
 unfold Go.Ar.fT;rw[h.fB];split
 ·rename_i h0;refine h.set ?_;unfold Go.Ar.fB at h0;split at h0
  ·rename_i hr;exact Pr hr
  ·simp at h0
 ·exact h
theorem FD (s:Sp)(a m:Nat):KS s (fT s (a:Int) (m:Int)):=by
 by_cases h:fB s (a:Int) (m:Int)=0
 ·have j:=GC h;obtain⟨g,i,r,_⟩:=Ed h;refine⟨g,λp d=>?_⟩;have b:¬(a<=p/\p<a+m):=λe=>d (j.2.2 p e.1 e.2);exact⟨by rw[i,zB b];exact d,λw u=>r w O⟩
 ·unfold fT;rw[zB h];exact KS.refl s
theorem jr.cY (h:jr s s')(size:Nat):cY s' size=cY s size:=by
 unfold Go.Ar.cY;rw[h.l]
 congr 1
 funext x
 rw[h.fB]
theorem jr.cZ (h:jr s s')(A:AR)(m a no:Nat):(cZ A s' m a no).1=(cZ A s m a no).1/\(cZ A s' m a no).2.1=(cZ A s m a no).2.1/\jr (cZ A s m a no).2.2 (cZ A s' m a no).2.2/\KS s' (cZ A s' m a no).2.2:=by
 unfold Go.Ar.cZ;split
 ·exact⟨rfl,rfl,h,KS.refl _⟩
 ·unfold Ut;rw[h.cY];cases hg:Go.Ar.cY s (QO (max m a))with
  | none=>exact⟨rfl,rfl,h,KS.refl _⟩
  | some x=>
   simp only;split
   ·exact⟨rfl,rfl,h.fT _ _,FD _ _ _⟩
   ·exact⟨rfl,rfl,h.fT _ _,FD _ _ _⟩
theorem jr.cL (h:jr s s')(A:AR)(k:Int):(cL A s' k).1=(cL A s k).1/\KD A s' k=KD A s k/\jr (cL A s k).2 (cL A s' k).2/\KS s' (cL A s' k).2:=by
 unfold Go.Ar.cL KD;split
 ·split
  ·rename_i c ss _ _;obtain⟨a,b,d,e⟩:=h.cZ A c.aF 1 (k.toNat+1);cases e1:Go.Ar.cZ A s c.aF 1 (k.toNat+1)with
   | mk o1 r1=>cases e2:Go.Ar.cZ A s' c.aF 1 (k.toNat+1)with
    | mk o2 r2=>
     obtain⟨j,i⟩:=r1;obtain⟨g,m⟩:=r2;rw[e1,e2]at a b d;rw[e2]at e;simp only at a b d e;subst a;subst b;cases o2<;>exact⟨rfl,rfl,d,e⟩
  ·exact⟨rfl,rfl,h,KS.refl _⟩
 ·exact⟨rfl,rfl,h,KS.refl _⟩
theorem jr.cA (h:jr s s')(A:AR)(m a:Int):(cA A s' m a).1=(cA A s m a).1/\Qg A s' m a=Qg A s m a/\ZT A s' m a=ZT A s m a/\jr (cA A s m a).2 (cA A s' m a).2/\KS s' (cA A s' m a).2:=by
 unfold Go.Ar.cA Qg ZT;split
 ·obtain⟨b,d,e,g⟩:=h.cZ A m.toNat a.toNat 41;cases e1:Go.Ar.cZ A s m.toNat a.toNat 41 with
  | mk o1 r1=>cases e2:Go.Ar.cZ A s' m.toNat a.toNat 41 with
   | mk o2 r2=>
    obtain⟨p,j⟩:=r1;obtain⟨i,r⟩:=r2;rw[e1,e2]at b d e;rw[e2]at g;simp only at b d e g;subst b;subst d;cases o2<;>exact⟨rfl,rfl,rfl,e,g⟩
 ·exact⟨rfl,rfl,rfl,h,KS.refl _⟩
variable {W:Wd}
theorem I8 (h:WI W){cl:Int}{l:List Int}(ho:jf W.held k cl l=true)(c x:Int):Um (W.held.filter λp=>!dZ k cl l p) c x↔Um W.held c x/\¬(c=cl/\x∈l):=by
 constructor
 ·rintro⟨p,hp,h1,h2,h3⟩;obtain⟨a,d⟩:=zI.1 hp;refine⟨⟨p,a,h1,h2,h3⟩,?_⟩;rintro⟨rfl,b⟩;obtain⟨q,i,e⟩:=(Kx.1 ho).1 x b;obtain⟨m,r,u,s⟩:=Kr.1 e;obtain rfl:=h.same (p:=p) (q:=q) a i O;have:dZ k c l p=true:=ZQ.2 ⟨m,h2,by rw[h3];exact b⟩;rw[this]at d;cases d
 ·rintro⟨⟨p,hp,h1,h2,h3⟩,d⟩;refine⟨p,zI.2 ⟨hp,?_⟩,h1,h2,h3⟩;have:dZ k cl l p=false:=mR.2 λb=>by
   obtain⟨_,j,g⟩:=ZQ.1 b;exact d ⟨h2.symm.trans j,by rw[←h3];exact g⟩
  rw[this];rfl
theorem Jf {held:List Pc}{cl:Int}{l:List Int}(ho:jf held k cl l=true):∀x∈l,Um held cl x:=λx b=>by
 obtain⟨q,d,a⟩:=(Kx.1 ho).1 x b;obtain⟨j,e,i,g⟩:=Kr.1 a;exact⟨q,d,g,e,i⟩
theorem Mt (h:WI W){cl:Int}{l:List Int}(ho:jf W.held k cl l=true)(c x:Int):Um (Hj W.held k cl l true) c x↔Um W.held c x/\¬(c=cl/\x∈l):=by
 constructor
 ·rintro⟨p,hp,h1,h2,h3⟩;obtain⟨q,b,rfl⟩:=Qv.1 hp;by_cases hof:dZ k cl l q=true
  ·rw[zC hof]at h1;cases h1
  ·rw[zB hof]at h1 h2 h3;refine⟨⟨q,b,h1,h2,h3⟩,?_⟩;rintro⟨rfl,hx⟩;obtain⟨r,d,a⟩:=(Kx.1 ho).1 x hx;obtain⟨i,j,s,m⟩:=Kr.1 a;obtain rfl:=h.same b d O;exact hof (ZQ.2 ⟨i,h2,by rw[h3];exact hx⟩)
 ·rintro⟨⟨p,hp,h1,h2,h3⟩,hn⟩;refine⟨p,Qv.2 ⟨p,hp,?_⟩,h1,h2,h3⟩;rw[zB];intro hx;obtain⟨_,g,e⟩:=ZQ.1 hx;exact hn ⟨h2.symm.trans g,by rw[←h3];exact e⟩
theorem F5 {held:List Pc}{cl:Int}{l:List Int}:∀p∈Hj held k cl l true,p.eL=false->p∈held:=λp d a=>by
 obtain⟨q,b,rfl⟩:=Qv.1 d;by_cases hof:dZ k cl l q=true
 ·rw[zC hof]at a;cases a
 ·rw[zB hof];exact b
theorem Ll (h:WI W)(hk:W.bX[k]?=some A){j:Nat}:(∀x∈Ys A (j:Int),∀c,¬Um W.held c x)/\(Ys A (j:Int)).Nodup/\(∀c x,Um (Hj W.held k j (Ys A (j:Int)) false) c x↔Um W.held c x\/(c=j/\x∈Ys A (j:Int))) ∧
 (∀p∈Hj W.held k j (Ys A (j:Int)) false,p.eL=false->p∈W.held\/∀c,¬Um W.held c (p.addr:Int)):=by
 obtain⟨o,e1,e2,E,L,K⟩:=DA (h.ga k A hk) (j:Int);rw[dE]at e2;have z:∀x∈Ys A (j:Int),∃q∈W.held,q.k=k/\q.cls=j/\(q.addr:Int)=x/\q.eL=true:=λx d=>by
  have s:=e2 x d;obtain⟨t,ht,g⟩:=s;have u:j<A.tb.length:=by rw[←(h.ga k A hk).lt];exact(cW.1 ht).1
  obtain⟨c,B,J,w,C⟩:=(h.ga k A hk).cl u;have r:fP A j x:=(KN w).2 ((h.ga k A hk).lN j c B t w ht x g);obtain⟨q,a,m,i,b⟩:=h.ht k A hk j x r;obtain⟨_,_,_,_,G⟩:=h.cls a i (by rw[m];exact hk);exact⟨q,a,m,i,b,G.2 (by rw[b];exact⟨t,ht,g⟩)⟩
 have new:∀x∈Ys A (j:Int),∀c,¬Um W.held c x:=λx d c D=>by
  obtain⟨q,a,_,_,b,y⟩:=z x d;have:=(h.um a D b).1;rw[y]at this;cases this
 refine⟨new,E,λc x=>⟨?_,?_⟩,λp e M=>?_⟩
 ·rintro⟨p,e,h1,h2,h3⟩;obtain⟨q,a,rfl⟩:=Qv.1 e;by_cases hof:dZ k (j:Int) (Ys A (j:Int)) q=true
  ·rw[zC hof]at h2 h3;obtain⟨_,H,F⟩:=ZQ.1 hof;exact .inr ⟨h2.symm.trans H,by rw[←h3];exact F⟩
  ·rw[zB hof]at h1 h2 h3;exact .inl ⟨q,a,h1,h2,h3⟩
 ·rintro(⟨p,e,h1,h2,h3⟩|⟨rfl,d⟩)
  ·refine⟨p,Qv.2 ⟨p,e,?_⟩,h1,h2,h3⟩;split
   ·rw[←h1]
   ·rfl
  ·obtain⟨q,a,m,i,b,y⟩:=z x d;refine⟨{q with eL:=false},Qv.2 ⟨q,a,?_⟩,rfl,i,b⟩;rw[zC (ZQ.2 ⟨m,i,by rw[b];exact d⟩)]
 ·obtain⟨q,a,rfl⟩:=Qv.1 e;by_cases hof:dZ k (j:Int) (Ys A (j:Int)) q=true
  ·rw[zC hof];exact .inr (new _ (ZQ.1 hof).2.2)
  ·rw[zB hof];exact .inl a
theorem yG {tb:List bZ}{bX:List AR}{sp:Sp}{held new:List Pc}(h:WI ⟨tb,sp,bX,held++new⟩):∀p∈new,∀c,¬Um held c (p.addr:Int):=by
 rintro p b c ⟨q,d,_,_,g⟩;have e:=h.same (p:=p) (q:=q) (nI _ b) (ke _ d) O;have a:=h.hk;simp only[kC]at a;rw[nt]at a;exact a.2.2 q.key (zE.2 ⟨q,d,rfl⟩) p.key (zE.2 ⟨p,b,rfl⟩) (by rw[e])
theorem FU {held new:List Pc}{cl:Int}{l:List Int}(h1:∀p∈new,p.eL=false/\p.cls=cl/\(p.addr:Int)∈l)(h2:∀x∈l,∃p∈new,(p.addr:Int)=x)(c x:Int):Um (held++new) c x↔Um held c x\/(c=cl/\x∈l):=by
 constructor
 ·rintro⟨p,b,a1,a2,a3⟩;rcases zK.1 b with b|b
  ·exact .inl ⟨p,b,a1,a2,a3⟩
  ·obtain⟨_,d,g⟩:=h1 p b;exact .inr ⟨a2.symm.trans d,by rw[←a3];exact g⟩
 ·rintro(⟨p,b,a⟩|⟨rfl,hx⟩)
  ·exact⟨p,ke _ b,a⟩
  ·obtain⟨p,b,e⟩:=h2 x hx;exact⟨p,nI _ b,(h1 p b).1,(h1 p b).2.1,e⟩
theorem Dy {tb:List bZ}{bX:List AR}{sp:Sp}{held new:List Pc}(h:WI ⟨tb,sp,bX,held++new⟩):∀p∈held++new,p.eL=false->p∈held\/∀c,¬Um held c (p.addr:Int):=λp a _=>by
 rcases zK.1 a with a|a
 ·exact .inl a
 ·exact .inr (yG h p a)
theorem KH {ss:List cG}:∀{i:Nat},Y9 ss i=none->∀k,k<i->∀s,ss[k]?=some s->¬s.many<s.tk.length
 | 0,_,k,hk,_,_=>by omega
 | i+1,h,k,hk,s,hs=>by
  unfold Y9 at h;by_cases hki:k=i
  ·subst hki;rw[hs]at h;simp only at h;intro hlt;rw[zC hlt]at h;split at h
   ·split at h
    ·split at h<;>cases h
    ·cases h
   ·cases h
  ·cases hi:ss[i]? with
   | none=>
    rw[hi]at h;exact KH h k O s hs
   | some x=>
    rw[hi]at h;simp only at h;split at h
    ·split at h
     ·split at h
      ·split at h<;>cases h
      ·cases h
     ·exact KH (by assumption) k O s hs
    ·exact KH h k O s hs
theorem Rj (h:GA A)(hw:Ow A sp){j:Nat}(hE:KD A sp (j:Int)=0){w:Nat}(h1:1<=w):Yc (cL A sp (j:Int)).1 (j:Int) (w:Int)≠[]:=by
 rcases GQ h hw (j:Int)with⟨_,hn,_⟩|⟨j',c,ss,x,A1,sp1,hj,hk,hk1,_,e,hst,r1,r2,r3,_,hd,hS⟩
 ·exact(hn hE).elim
 ·obtain rfl:j=j':=by omega
  have a:Cl (cL A sp (j:Int)).1 j c (ie c ss x):=by
   rw[e];have u:Cl (dO A1 x c.aF (j+1)) j c ss:=hk1;exact UG u _
  have C:=hS.ga.cE j c _ a;have b:(⟨x,List.replicate c.n false⟩:cG)∈ie c ss x:=Va.2 (.inl rfl);have g:(cL A sp (j:Int)).1.ck (j:Int)=true:=U7.2 ⟨j,rfl,a.lt⟩;unfold Yc Qp K0;rw[g,zC rfl,zB (show ¬((w:Int)<0) by omega),zC rfl,dE,dE,a.1,a.2];simp only;obtain⟨w,rfl⟩:∃v,w=v+1:=⟨w-1,O⟩;cases ho:iY c (ie c ss x)with
  | some r=>
   obtain⟨y,D⟩:=r;rw[HD ho];simp
  | none=>
   exfalso;unfold iY iH at ho;obtain⟨l,z⟩:=zQ b;have m:=(cW.1 z).1;have p:(⟨x,List.replicate c.n false⟩:cG).many<(⟨x,List.replicate c.n false⟩:cG).tk.length:=by
    have:=C.ok.qG;simp[cG.many,xZ];omega
   cases hb:Y9 (ie c ss x) (ie c ss x).length with
   | none=>exact KH hb l m _ z p
   | some i=>
    rw[hb]at ho;obtain⟨_,s,E,d⟩:=QC hb;obtain⟨r,B,_⟩:=Gw d;simp only[E,B]at ho;cases ho
end Go.Ar
namespace Go.Ar
open Go.Vc (bW dB cS)
variable {H:Hw}{held:List Pc}{s0:Sp}{t k:Nat}{g:Th}{A:AR}{c:bZ}
theorem ZR {p:Ph}{H1:Hw}{g1:Th}{nx:Option Ph}{a e:Int}(ht:t<H.bQ.length)(hs:Wt H t p=({H1 with bQ:=H.bQ.set t g1},nx,a,e)):Qq H t p = {H1 with bQ:=H.bQ.set t {g1 with ph:=nx}}:=by
 unfold Qq;rw[hs];show Hw.dS _ t _=_;rw[Zp (g:=g1) (by simp[ht])];simp only[ni]
structure iv (H:Hw) (t:Nat) (p:Ph):Prop where
 ok:tP H t p
 hi:∃held s0,HI (Qq H t p) held s0
 ks:KS H.sp (Qq H t p).sp
theorem iv.mk' {p:Ph}(hg:H.bQ[t]?=some g)(hl:g.bP.length<=41)(h1:uj H t p){H':Hw}{held':List Pc}{s0':Sp}(e:Qq H t p=H')(h2:HI H' held' s0')(h3:KS H.sp H'.sp):iv H t p:=
 ⟨⟨h1,λb a=>by rw[hg]at a;cases a;omega⟩,⟨held',s0',by rw[e];exact h2⟩,by rw[e];exact h3⟩
def Rq (tb:List bZ)(g:Th):Ph->Int->Int->Prop
 | .take k,cl,sz=>cl=k/\∃c,tb[k]?=some c/\sz=c.size
 | .cH k _,cl,sz=>cl=k/\∃c,tb[k]?=some c/\sz=c.size
 | .cJ k _,cl,sz=>cl=k/\∃c,tb[k]?=some c/\sz=c.size
 | .grow k _,cl,sz=>cl=k/\∃c,tb[k]?=some c/\sz=c.size
 | .fill,cl,sz=>∃k xs r c,g.bP=(k,xs)::r/\cl=k/\tb[k]?=some c/\sz=c.size
 | .eI m,cl,sz=>cl = -1/\sz=((m*256:Nat):Int)
 | _,_,_=>False
def GD (H:Hw)(t:Nat):Ph->Nat
 | .take _=>5
 | .cH _ _=>4
 | .cJ k w=>if Yc (H.eA t) (k:Int) (w:Int)=[]then 3 else 1
 | .grow _ _=>2
 | _=>0
def sL (H:Hw)(t:Nat)(p:Ph)(cl sz:Int):Prop:=
 (∃p' g',(Wt H t p).2.1=some p'/\(Qq H t p).live=H.live/\(Qq H t p).bQ[t]?=some g'/\Rq H.tb g' p' cl sz/\GD (Qq H t p) t p'<GD H t p) ∨
 ((Wt H t p).2.1=none/\(Wt H t p).2.2.2≠0/\(Wt H t p).2.2.1=0/\(Qq H t p).live=H.live) ∨
 ((Wt H t p).2.1=none/\(Wt H t p).2.2.2=0/\bW H.live (Wt H t p).2.2.1=none/\(Qq H t p).live=dB H.live (Wt H t p).2.2.1 ((Wt H t p).2.2.1,sz,cl,XP (Qq H t p).bX (Wt H t p).2.2.1))
theorem HI.mem (h:HI H held s0)(hg:H.bQ[t]?=some g):g∈H.bQ:=zG hg
theorem HI.jU (h:HI H held s0)(t:Nat):H.own t<H.bX.length:=tZ _ (by have:=h.a1;omega)
theorem HI.eA (h:HI H held s0)(t:Nat):H.bX[H.own t]?=some (H.eA t):=by
 have a:=cV (h.jU t);rw[BU a];exact a
theorem HI.pS (h:HI H held s0):H.tb.length<=40:=by
 have a:=h.eA 0;have:=(h.wi.ga _ _ a).tb;rw[h.wi.tb _ _ a]at this;exact this
theorem HI.cls (h:HI H held s0)(hk:k<H.tb.length):∃c,H.tb[k]?=some c/\c.ok:=⟨H.tb[k],cV hk,h.ok _ (kg hk)⟩
theorem sC.li {m:Nat}(h:sC m g)(hk:k<m):∃l,g.ls[k]?=some l/\g.li k=l/\fK l/\l.os.length<=128:=by
 have a:=cV (l:=g.ls) (i:=k) (by rw[h.ll];exact hk);have:=h.lo _ (kg (by rw[h.ll];exact hk));exact⟨_,a,wY a,this.1,this.2⟩
theorem sC.gI {m:Nat}(h:sC m g){l':Li}(h1:fK l')(h2:l'.os.length<=128):(g.ls.set k l').length=m/\∀l∈g.ls.set k l',fK l/\l.os.length<=128:=by
 refine⟨by rw[nK];exact h.ll,λl a=>?_⟩;rcases wT a with a|rfl
 ·exact h.lo l a
 ·exact⟨h1,h2⟩
theorem PK {ls:List Li}{l':Li}{hs:List Bt}{ph:Option Ph}(hk:k<ls.length):(⟨ls.set k l',hs,ph⟩:Th).li k=l':=by
 unfold Th.li;rw[Fb l' k hk,zC rfl]
theorem HI.vZ (h:HI H held s0){y:Int}(hu:Um held (k:Int) y)(hc:H.tb[k]?=some c):Lv held (y,(y,(c.size:Int),(k:Int),XP H.bX y)):=by
 obtain⟨p,d,i,e,rfl⟩:=hu;obtain⟨A,g,_⟩:=h.wi.hf p d;obtain⟨c',b,j,_⟩:=h.wi.cls d e g;rw[h.wi.tb _ _ g]at b;have a:H.tb[k]?=some c':=b;rw[hc]at a;cases a;exact⟨rfl,p,d,i,e,rfl,by rw[j],by rw[h.oU d]⟩
theorem GB {ls:List Li}{l:Li}(hl:ls[k]?=some l)(l':Li)(k' x:Int):k6 (ls.set k l') k' x+(if(k:Int)=k' then l.os.count x else 0)=k6 ls k' x+(if(k:Int)=k' then l'.os.count x else 0):=by
 have:=MZ l' (cW.1 hl).1 k' x;rw[zO,hl]at this;exact this
theorem JL {ls:List Li}{l:Li}(hl:ls[k]?=some l)(x:Int):k6 ls (k:Int) x=l.os.count x:=by
 rw[GN,zO,hl];rfl
theorem NJ (h:HI H held s0)(hg:H.bQ[t]?=some g)(hph:g.ph=some (.take k)){cl sz:Int}(hr:Rq H.tb g (.take k) cl sz):iv H t (.take k)/\sL H t (.take k) cl sz:=by
 have J:=(cW.1 hg).1;have b:=h.th g (h.mem hg);obtain⟨P,z⟩:g.bP=[]/\k<H.tb.length:=by have:=b.ph;unfold ij at this;rw[hph]at this;exact this
 obtain⟨rfl,c,m,rfl⟩:=hr;have C:=h.ok c (zG m);obtain⟨l,hl,j,K,R⟩:=b.li z;have d:=B8 C K;have i:=HT hg;cases hT:QX c l with
 | mk o l'=>
  rw[hT]at d;cases o with
  | some y=>
   have A:Wt H t (.take k)=({{H with live:=dB H.live y (y,(c.size:Int),(k:Int),XP H.bX y)}with bQ:=H.bQ.set t {g with ls:=g.ls.set k l'}},none,y,0):=by
    simp only[Wt,i,VQ m,j,hT,Vk,Zp hg,Th.gI]
   have e:=ZR J A;have w:1<=gG g (k:Int) y:=by
    have:=DV hT y;rw[Ah]at this;unfold gG;rw[JL hl];omega
   have Q:=h.qd (h.mem hg) w;have M:=h.lz (h.mem hg) w;have B:l'.os.length<=128:=by
    have:l'.os.length<=l.os.length:=by
     unfold QX at hT;split at hT
     ·cases hT
     ·cases hT;simp
    omega
   obtain⟨ll,N⟩:=b.gI (k:=k) d B;have G:=h.kj hg (g':={g with ls:=g.ls.set k l',ph:=none}) (live':=dB H.live y (y,(c.size:Int),(k:Int),XP H.bX y)) (λE x=>by
    rw[yX _ M];have D:=GB hl l' E x;have W:=DV hT x;unfold gG;rw[hph];simp only[jy];by_cases hkk:(k:Int)=E
    ·simp only[hkk,zR]at D ⊢;omega
    ·simp only[hkk,zy]at D ⊢;omega)
    (Go.Vc.gL h.lk) (λS p=>by
     rcases(Gn M).1 p with p|rfl
     ·exact .inl p
     ·exact .inr (h.vZ Q m))
    (λs a F=>by cases F) ⟨ll,N,b.hb,b.hl,by unfold ij;exact P⟩
   refine⟨iv.mk' hg b.hl ⟨z,λU L u=>?_⟩ e G (KS.refl _),.inr (.inr ?_)⟩
   ·rw[i,j,VQ m,hT]at u;cases u;exact(h.i63 Q).1
   ·rw[e,A];exact⟨rfl,rfl,M,rfl⟩
  | none=>
   have A:Wt H t (.take k)=({H with bQ:=H.bQ.set t {g with ls:=g.ls.set k l'}},some (.cH k (nY c l')),0,0):=by
    simp only[Wt,i,VQ m,j,hT,Zp hg,Th.gI]
   have e:=ZR J A;obtain⟨o1,o2⟩:=Rt hT;obtain⟨ll,N⟩:=b.gI (k:=k) d (by rw[o2];simp);have r:=d.mS;have V:1<=nY c l'/\nY c l'<=32:=by
    unfold bZ.ok at C;unfold nY;simp only at r;omega
   have G:=h.kj hg (g':={g with ls:=g.ls.set k l',ph:=some (.cH k (nY c l'))}) (live':=H.live) (λE x=>by
    have D:=GB hl l' E x;rw[o1,o2]at D;unfold gG;rw[hph];simp only[jy];omega) h.lk (λS p=>.inl p) (λs a F=>by cases F) ⟨ll,N,b.hb,b.hl,by
     unfold ij;exact⟨P,z,by rw[PK (by rw[b.ll];exact z)];exact o2,V⟩⟩
   refine⟨iv.mk' hg b.hl ⟨z,λU L u=>?_⟩ e G (KS.refl _),.inl ?_⟩
   ·rw[i,j,VQ m,hT]at u;cases u
   ·rw[e,A];exact⟨_,_,rfl,rfl,zL J,⟨rfl,c,m,rfl⟩,by simp[GD]⟩
theorem HQ (h:GA A)(h0:ZV A (k:Int)=0)(hc:A.tb[k]?=some c):∃x xs,Ys A (k:Int)=x::xs/\xs.length+1=c.batch:=by
 have b:Ys A (k:Int)=(match A.cM[k]? with
  | some t=>t.bs.getLast?.getD []
  | none=>[]):=by unfold Ys;rw[zC h0,dE];rfl
 unfold ZV at h0;rw[dE]at h0;split at h0
 ·split at h0
  ·rename_i t ht;split at h0
   ·cases h0
   ·rename_i hb;rw[ht]at b;simp only at b;have j:t.bs.getLast?=some (t.bs.getLast hb):=List.getLast?_eq_some_getLast hb;rw[j]at b;simp only[pC]at b;have:=h.oE k c t hc ht _ (List.getLast_mem hb);rw[←b]at this;have m:=h.cE;cases hx:Ys A (k:Int)with
    | nil=>
     rw[hx]at this;have e:k<A.tb.length:=(cW.1 hc).1;obtain⟨g,i,_,a,_⟩:=h.cl e;have d:g=c:=Option.some.inj (a.1.symm.trans hc);have:=(h.cE k g i a).ok;unfold bZ.ok at this;simp at *;subst d;omega
    | cons x xs=>exact⟨x,xs,rfl,by rw[hx]at this;simpa using this⟩
  ·cases h0
 ·cases h0
theorem Ot (h:HI H held s0)(hg:H.bQ[t]?=some g){w:Nat}(hph:g.ph=some (.cH k w)){cl sz:Int}(hr:Rq H.tb g (.cH k w) cl sz):iv H t (.cH k w)/\sL H t (.cH k w) cl sz:=by
 have B:=(cW.1 hg).1;have d:=h.th g (h.mem hg);obtain⟨G,C,r,V⟩:g.bP=[]/\k<H.tb.length/\(g.li k).os=[]/\1<=w/\w<=32:=by have:=d.ph;unfold ij at this;rw[hph]at this;exact this
 obtain⟨rfl,c,i,rfl⟩:=hr;have K:=h.ok c (zG i);have m:=K;unfold bZ.ok at m;have D:=h.eA t;have ga:=h.wi.ga _ _ D;have p:(H.eA t).tb[k]?=some c:=by rw[h.wi.tb _ _ D];exact i
 have L:uj H t (.cH k w):=⟨C,λA=>by
  obtain⟨x,u,e,_⟩:=HQ ga A p;rw[e];simp⟩
 by_cases hcase:w=c.batch/\ZV (H.eA t) (k:Int)=0
 ·obtain⟨rfl,A⟩:=hcase;obtain⟨x,u,M,X⟩:=HQ ga A p;have z:Wt H t (.cH k c.batch)=({H.cC (H.own t) (Zt (H.eA t) (k:Int))with bQ:=H.bQ.set t {g with bP:=[(k,x::u)]}},some .fill,0,0):=by
   simp only[Wt,VQ i,zR,A,Qz,M];rw[Zp (g:=g) (by exact hg),G];rfl
  have e:=ZR (H1:=H.cC (H.own t) (Zt (H.eA t) (k:Int))) B z;obtain⟨N,R,S,W⟩:=Ll h.wi D (j:=k);have wi:=h.wi.vo D (k:Int);have J:=h.fo hg (g':={g with bP:=[(k,x::u)],ph:=some .fill}) (live':=H.live) wi h.mI rfl (by simp[Wd.put]) W (λP y=>by
   rw[BR R (λy Q=>N y Q _) S,M];unfold gG;rw[hph,G];simp only[jy,Ks,Vj];omega) h.lk (λU F=>.inl F) (λs a E=>by cases E) ⟨d.ll,d.lo,λb hb=>by
    simp only[zN]at hb;subst hb;exact⟨C,by simp,by simp;omega⟩,by simp,by
    unfold ij;exact⟨k,x,u,rfl,C,r,O⟩⟩
  refine⟨iv.mk' hg d.hl L e J (KS.refl _),.inl ?_⟩;rw[e,z];exact⟨_,_,rfl,rfl,zL B,⟨k,x::u,[],c,rfl,rfl,i,rfl⟩,by simp[GD]⟩
 ·have z:Wt H t (.cH k w)=({H with bQ:=H.bQ.set t g},some (.cJ k w),0,0):=by
   have:H.bQ.set t g=H.bQ:=Z4 hg;rw[this];simp only[Wt,VQ i];split
   ·split
    ·exact(hcase ⟨by assumption,by assumption⟩).elim
    ·rfl
   ·rfl
  have e:=ZR B z;have J:=h.kj hg (g':={g with ph:=some (.cJ k w)}) (live':=H.live) (λP x=>by
   unfold gG;rw[hph];simp only[jy]) h.lk (λU F=>.inl F) (λs a E=>by cases E) ⟨d.ll,d.lo,d.hb,d.hl,by
    unfold ij;exact⟨G,C,r,V⟩⟩
  refine⟨iv.mk' hg d.hl L e J (KS.refl _),.inl ?_⟩;rw[e,z];refine⟨_,_,rfl,rfl,zL B,⟨rfl,c,i,rfl⟩,?_⟩;simp only[GD];split<;>omega
theorem PO (h:GA A)(j w:Nat):(Yc A (j:Int) (w:Int)).length<=w:=by
 unfold Yc;split
 ·rename_i h0;have b:A.ck (j:Int)=true:=by
   unfold Qp at h0;split at h0
   ·assumption
   ·cases h0
  obtain⟨i,g,e⟩:=U7.1 b;obtain⟨c,d,t,a,m⟩:=h.cl e;have:i=j:=by omega
  subst this;unfold K0;rw[dE,dE,a.1,a.2];exact(Hg w (h.cE i c d a)).2.2.1
 ·simp
theorem IK (H:Hw)(t:Nat)(B:AR)(h:H.own t<H.bX.length)(sp:Sp)(bQ:List Th):Hw.eA {H.cC (H.own t) B with sp:=sp,bQ:=bQ} t=B:=by
 refine BU ?_;have:Hw.own {H.cC (H.own t) B with sp:=sp,bQ:=bQ} t=H.own t:=by unfold Hw.own Hw.cC;simp
 rw[this];simp[Hw.cC,h]
theorem LU (h:HI H held s0)(hg:H.bQ[t]?=some g){w:Nat}(hph:g.ph=some (.cJ k w)){cl sz:Int}(hr:Rq H.tb g (.cJ k w) cl sz):iv H t (.cJ k w)/\sL H t (.cJ k w) cl sz:=by
 have C:=(cW.1 hg).1;have d:=h.th g (h.mem hg);obtain⟨E,J,u,Q⟩:g.bP=[]/\k<H.tb.length/\(g.li k).os=[]/\1<=w/\w<=32:=by have:=d.ph;unfold ij at this;rw[hph]at this;exact this
 obtain⟨rfl,c,K,rfl⟩:=hr;have L:=h.eA t;have ga:=h.wi.ga _ _ L;have wi:=h.wi.from L (k:Int) (w:Int);have j:=PO ga k w;have A:=(Dg ga (k:Int) (w:Int)).2.2.1;cases hv:Yc (H.eA t) (k:Int) (w:Int)with
 | nil=>
  have B:Wt H t (.cJ k w)=({H.cC (H.own t) (Yu (H.eA t) (k:Int) (w:Int))with bQ:=H.bQ.set t g},some (.grow k w),0,0):=by
   have:H.bQ.set t g=H.bQ:=Z4 hg;rw[this];simp only[Wt,hv,zR,Hw.cC]
  have e:=ZR (H1:=H.cC (H.own t) (Yu (H.eA t) (k:Int) (w:Int))) C B;rw[hv]at wi;simp only[qT,kX]at wi;have F:=h.fo hg (g':={g with ph:=some (.grow k w)}) (live':=H.live) wi h.mI rfl (by simp[Wd.put]) (λp i _=>.inl i) (λM y=>by
   unfold gG;rw[hph];simp only[jy]) h.lk (λN D=>.inl D) (λs a i=>by cases i) ⟨d.ll,d.lo,d.hb,d.hl,by
    unfold ij;exact⟨E,J,u,Q⟩⟩
  refine⟨iv.mk' hg d.hl trivial e F (KS.refl _),.inl ?_⟩;rw[e,B];exact⟨_,_,rfl,rfl,zL C,⟨rfl,c,K,rfl⟩,by simp[GD,hv]⟩
 | cons v vs=>
  have B:Wt H t (.cJ k w)=({H.cC (H.own t) (Yu (H.eA t) (k:Int) (w:Int))with bQ:=H.bQ.set t {g with bP:=[(k,(v::vs).map λ(x:Nat)=>(x:Int))]}},some .fill,0,0):=by
   simp only[Wt,hv,Qz];rw[zB aA,Zp (g:=g) (by exact hg),E];rfl
  have e:=ZR (H1:=H.cC (H.own t) (Yu (H.eA t) (k:Int) (w:Int))) C B;rw[hv]at wi j A;have m:((v::vs).map λ(x:Nat)=>(x:Int)).Nodup:=List.Pairwise.map (R:=(· ≠ ·)) _ (λa b G e=>G O) A;have app:=FU (held:=held) (new:=(v::vs).map λy=>(⟨H.own t,(k:Int),y,n4 H.tb (k:Int),false⟩:Pc)) (cl:=(k:Int)) (l:=(v::vs).map λ(x:Nat)=>(x:Int)) (λp i=>by
   obtain⟨y,r,rfl⟩:=zE.1 i;exact⟨rfl,rfl,zE.2 ⟨y,r,rfl⟩⟩) λx S=>by
   obtain⟨y,r,rfl⟩:=zE.1 S;exact⟨_,zE.2 ⟨y,r,rfl⟩,rfl⟩
  have new:=yG wi;have F:=h.fo hg (g':={g with bP:=[(k,(v::vs).map λ(x:Nat)=>(x:Int))],ph:=some .fill}) (live':=H.live) wi h.mI rfl (by simp[Wd.put]) (Dy wi) (λM y=>by
   rw[BR m (λy r=>by
    obtain⟨z,P,rfl⟩:=zE.1 r;exact new ⟨H.own t,(k:Int),z,n4 H.tb (k:Int),false⟩ (zE.2 ⟨z,P,rfl⟩) _) app]
   unfold gG;rw[hph,E];simp only[jy,Ks,Vj];omega) h.lk (λN D=>.inl D) (λs a i=>by cases i) ⟨d.ll,d.lo,λb hb=>by
    simp only[zN]at hb;subst hb;exact⟨J,by simp,by simp at j ⊢;omega⟩,by simp,by
    unfold ij;exact⟨k,(v:Int),vs.map λ(x:Nat)=>(x:Int),rfl,J,u,by simp at j ⊢;omega⟩⟩
  refine⟨iv.mk' hg d.hl trivial e F (KS.refl _),.inl ?_⟩;rw[e,B];refine⟨_,_,rfl,rfl,zL C,⟨k,_,[],c,rfl,rfl,K,rfl⟩,?_⟩;simp[GD,hv]
theorem Ni (h:HI H held s0)(hg:H.bQ[t]?=some g){w:Nat}(hph:g.ph=some (.grow k w)){cl sz:Int}(hr:Rq H.tb g (.grow k w) cl sz):iv H t (.grow k w)/\sL H t (.grow k w) cl sz:=by
 have B:=(cW.1 hg).1;have b:=h.th g (h.mem hg);obtain⟨C,J,A,D⟩:g.bP=[]/\k<H.tb.length/\(g.li k).os=[]/\1<=w/\w<=32:=by have:=b.ph;unfold ij at this;rw[hph]at this;exact this
 obtain⟨rfl,c,G,rfl⟩:=hr;have z:=h.eA t;have ga:=h.wi.ga _ _ z;obtain⟨e1,e2,E,r⟩:=h.mI.cL (H.eA t) (k:Int);have wi:=h.wi.grow z (k:Int);by_cases h0:KD (H.eA t) H.sp (k:Int)=0
 ·have m:Wt H t (.grow k w)=({{H.cC (H.own t) (cL (H.eA t) H.sp (k:Int)).1 with sp:=(cL (H.eA t) H.sp (k:Int)).2}with bQ:=H.bQ.set t g},some (.cJ k w),0,0):=by
   have:H.bQ.set t g=H.bQ:=Z4 hg;rw[this];simp only[Wt,h0,zR,Hw.cC]
  have e:=ZR (H1:={H.cC (H.own t) (cL (H.eA t) H.sp (k:Int)).1 with sp:=(cL (H.eA t) H.sp (k:Int)).2}) B m;have d:=Rj ga (h.wi.ow _ _ z) (j:=k) (by rw[←e2];exact h0) D.1;rw[show(Wd.mk H.tb s0 H.bX held).sp=s0 from rfl,←e1]at d;rw[show(Wd.mk H.tb s0 H.bX held).sp=s0 from rfl,←e1]at wi;have x:=h.fo hg (g':={g with ph:=some (.cJ k w)}) (live':=H.live) wi E r.l (by simp[Wd.put]) (λp i _=>.inl i) (λF y=>by
   unfold gG;rw[hph];simp only[jy]) h.lk (λK u=>.inl u) (λs a i=>by cases i) ⟨b.ll,b.lo,b.hb,b.hl,by
    unfold ij;exact⟨C,J,A,D⟩⟩
  refine⟨iv.mk' hg b.hl trivial e x r,.inl ?_⟩;rw[e,m];refine⟨_,_,rfl,rfl,zL B,⟨rfl,c,G,rfl⟩,?_⟩;have:=IK H t (cL (H.eA t) H.sp (k:Int)).1 (h.jU t) (cL (H.eA t) H.sp (k:Int)).2 (H.bQ.set t {g with ph:=some (.cJ k w)});simp only[GD];rw[this,zB d];omega
 ·have m:Wt H t (.grow k w)=({{H.cC (H.own t) (cL (H.eA t) H.sp (k:Int)).1 with sp:=(cL (H.eA t) H.sp (k:Int)).2}with bQ:=H.bQ.set t g},none,0,KD (H.eA t) H.sp (k:Int)):=by
   have:H.bQ.set t g=H.bQ:=Z4 hg;rw[this];simp only[Wt,h0,zy,Hw.cC]
  have e:=ZR (H1:={H.cC (H.own t) (cL (H.eA t) H.sp (k:Int)).1 with sp:=(cL (H.eA t) H.sp (k:Int)).2}) B m;rw[show(Wd.mk H.tb s0 H.bX held).sp=s0 from rfl,←e1]at wi;have x:=h.fo hg (g':={g with ph:=none}) (live':=H.live) wi E r.l (by simp[Wd.put]) (λp i _=>.inl i) (λF y=>by
   unfold gG;rw[hph];simp only[jy]) h.lk (λK u=>.inl u) (λs a i=>by cases i) ⟨b.ll,b.lo,b.hb,b.hl,by
    unfold ij;exact C⟩
  refine⟨iv.mk' hg b.hl trivial e x r,.inr (.inl ?_)⟩;rw[e,m];exact⟨rfl,h0,rfl,rfl⟩
theorem MB (h:HI H held s0)(hg:H.bQ[t]?=some g)(hph:g.ph=some .fill){cl sz:Int}(hr:Rq H.tb g .fill cl sz):iv H t .fill/\sL H t .fill cl sz:=by
 have Q:=(cW.1 hg).1;have i:=h.th g (h.mem hg);obtain⟨k,x,xs,w,J,j,R⟩:∃k x xs,g.bP=[(k,x::xs)]/\k<H.tb.length/\(g.li k).os=[]/\xs.length<=128:=by have:=i.ph;unfold ij at this;rw[hph]at this;exact this
 obtain⟨k',V,r,c,z,rfl,F,rfl⟩:=hr;rw[w]at z;obtain⟨d, -⟩:=List.cons.inj z;obtain rfl:k=k':=congrArg Prod.fst d;obtain⟨l,hl,u,D,N⟩:=i.li J;have p:=HT hg;rw[u]at j;have m:(eD xs.reverse l).os=xs.reverse:=by unfold eD;rw[j,zB aE];simp
 have K:Wt H t .fill=({{H with live:=dB H.live x (x,(c.size:Int),(k:Int),XP H.bX x)}with bQ:=H.bQ.set t {ls:=g.ls.set k (eD xs.reverse l),bP:=[],ph:=g.ph}},none,x,0):=by
  simp only[Wt,p,w,VQ F,Vk,Zp hg,u]
 have e:=ZR Q K;have A:1<=gG g (k:Int) x:=by
  unfold gG;rw[w,Ks,zC rfl];have:1<=(x::xs).count x:=Ay.2 aA;simp only;omega
 have G:=h.qd (h.mem hg) A;have E:=h.lz (h.mem hg) A;obtain⟨P,S⟩:=i.gI (k:=k) (xM (xs:=xs.reverse) D) (by rw[m];simp;omega);have M:=h.kj hg (g':={ls:=g.ls.set k (eD xs.reverse l),bP:=[],ph:=none}) (live':=dB H.live x (x,(c.size:Int),(k:Int),XP H.bX x)) (λk' y=>by
  rw[yX _ E];have B:=GB hl (eD xs.reverse l) k' y;rw[j,m,List.count_reverse,List.count_nil]at B;have W:(x::xs).count y=[x].count y+xs.count y:=vH (l₁:=[x]) (l₂:=xs);unfold gG;rw[hph,w];simp only[jy,Ks,Vj];by_cases d:(k:Int)=k'
  ·simp only[d,zR]at B ⊢;omega
  ·simp only[d,zy]at B ⊢;omega)
  (Go.Vc.gL h.lk) (λX C=>by
   rcases(Gn E).1 C with C|rfl
   ·exact .inl C
   ·exact .inr (h.vZ G F))
  (λs a L=>by cases L) ⟨P,S,λb U=>by simp at U,by simp,by unfold ij;rfl⟩
 refine⟨iv.mk' hg i.hl ⟨k,x,xs,[],by rw[p];exact w,J,(h.i63 G).1,by rw[p,u,j];simp;omega⟩ e M (KS.refl _),.inr (.inr ?_)⟩;rw[e,K];exact⟨rfl,rfl,E,rfl⟩
theorem Jb (h:HI H held s0)(hg:H.bQ[t]?=some g){m:Nat}(hph:g.ph=some (.eI m)){cl sz:Int}(hr:Rq H.tb g (.eI m) cl sz):iv H t (.eI m)/\sL H t (.eI m) cl sz:=by
 have M:=(cW.1 hg).1;have b:=h.th g (h.mem hg);obtain⟨K,U,W⟩:g.bP=[]/\1<=m/\m<=64:=by have:=b.ph;unfold ij at this;rw[hph]at this;exact this
 obtain⟨rfl,rfl⟩:=hr;have P:=h.eA t;have ga:=h.wi.ga _ _ P;obtain⟨e1,e2,Q,N,C⟩:=h.mI.cA (H.eA t) (m:Int) 1;have wi:=h.wi.uN P (m:Int) 1;rw[show(Wd.mk H.tb s0 H.bX held).sp=s0 from rfl,←e1,←e2,←Q]at wi;by_cases h0:Qg (H.eA t) H.sp (m:Int) 1=0
 ·rw[zC h0]at wi;have j:=yG wi;have z:=FU (held:=held) (new:=[(⟨H.own t, -1,ZT (H.eA t) H.sp (m:Int) 1*256,(m:Int).toNat*256,false⟩:Pc)]) (cl:=-1) (l:=[((ZT (H.eA t) H.sp (m:Int) 1*256:Nat):Int)]) (λp d=>by
   simp only[zN]at d;subst d;exact⟨rfl,rfl,by simp⟩) λx D=>by
   simp only[zN]at D;subst D;exact⟨_,zN.2 rfl,rfl⟩
  have i:(⟨H.own t, -1,ZT (H.eA t) H.sp (m:Int) 1*256,(m:Int).toNat*256,false⟩:Pc)∈held++[(⟨H.own t, -1,ZT (H.eA t) H.sp (m:Int) 1*256,(m:Int).toNat*256,false⟩:Pc)]:=by simp
  have E:=wi.size_pos i;have w:=wi.jC i;have F:=wi.owner i (x:=ZT (H.eA t) H.sp (m:Int) 1*256) (zD _) (by simp only at E ⊢;omega);generalize B:ZT (H.eA t) H.sp (m:Int) 1=V at *;have r:bW H.live ((V*256:Nat):Int)=none:=h.tn λG R=>j _ (zN.2 rfl) G R;have A:Wt H t (.eI m)=({{H.cC (H.own t) (cA (H.eA t) H.sp (m:Int) 1).1 with sp:=(cA (H.eA t) H.sp (m:Int) 1).2,live:=dB H.live ((V*256:Nat):Int) (((V*256:Nat):Int),((m*256:Nat):Int), -1,XP (H.bX.set (H.own t) (cA (H.eA t) H.sp (m:Int) 1).1) ((V*256:Nat):Int))}with bQ:=H.bQ.set t g},none,((V*256:Nat):Int),0):=by
   have:H.bQ.set t g=H.bQ:=Z4 hg;rw[this];simp only[Wt,h0,zR,Hw.cC,Vk,B]
  have e:=ZR (H1:={H.cC (H.own t) (cA (H.eA t) H.sp (m:Int) 1).1 with sp:=(cA (H.eA t) H.sp (m:Int) 1).2,live:=dB H.live ((V*256:Nat):Int) (((V*256:Nat):Int),((m*256:Nat):Int), -1,XP (H.bX.set (H.own t) (cA (H.eA t) H.sp (m:Int) 1).1) ((V*256:Nat):Int))}) M A;have J:=h.fo hg (g':={g with ph:=none}) (live':=dB H.live ((V*256:Nat):Int) (((V*256:Nat):Int),((m*256:Nat):Int), -1,XP (H.bX.set (H.own t) (cA (H.eA t) H.sp (m:Int) 1).1) ((V*256:Nat):Int))) wi N C.l (by simp[Wd.put]) (Dy wi) (λG y=>by
   rw[yX _ r,BR (l:=[((V*256:Nat):Int)]) (cl:=-1) aA (λy L=>by
    simp only[zN]at L;subst L;exact j _ (zN.2 rfl) _) z]
   unfold gG;rw[hph];simp only[jy];omega) (Go.Vc.gL h.lk) (λS u=>by
    rcases(Gn r).1 u with u|rfl
    ·exact .inl u
    ·refine .inr ⟨rfl,_,i,rfl,rfl,rfl,?_,?_⟩
     ·simp
     ·exact F) (λs a d=>by cases d) ⟨b.ll,b.lo,b.hb,b.hl,by
    unfold ij;exact K⟩
  refine⟨iv.mk' hg b.hl ?_ e J C,.inr (.inr ?_)⟩
  ·show ZT (H.eA t) H.sp (m:Int) 1<=1000000;rw[B];simp only at w;omega
  ·rw[e,A];exact⟨rfl,rfl,r,rfl⟩
 ·rw[zB h0]at wi;have B:ZT (H.eA t) H.sp (m:Int) 1=0:=by
   unfold Qg at h0;unfold ZT;split
   ·rename_i d;rw[d,zC rfl]at h0;split at h0
    ·exact(h0 rfl).elim
    ·rename_i hn;cases D:(cZ (H.eA t) H.sp (m:Int).toNat (1:Int).toNat 41).1 with
     | none=>rfl
     | some y=>rw[D]at hn;simp at hn
   ·rfl
  have A:Wt H t (.eI m)=({{H.cC (H.own t) (cA (H.eA t) H.sp (m:Int) 1).1 with sp:=(cA (H.eA t) H.sp (m:Int) 1).2}with bQ:=H.bQ.set t g},none,0,Qg (H.eA t) H.sp (m:Int) 1):=by
   have:H.bQ.set t g=H.bQ:=Z4 hg;rw[this];simp only[Wt,h0,zy,Hw.cC]
  have e:=ZR (H1:={H.cC (H.own t) (cA (H.eA t) H.sp (m:Int) 1).1 with sp:=(cA (H.eA t) H.sp (m:Int) 1).2}) M A;have J:=h.fo hg (g':={g with ph:=none}) (live':=H.live) wi N C.l (by simp[Wd.put]) (λp d _=>.inl d) (λG y=>by
   unfold gG;rw[hph];simp only[jy]) h.lk (λS u=>.inl u) (λs a d=>by cases d) ⟨b.ll,b.lo,b.hb,b.hl,by
    unfold ij;exact K⟩
  refine⟨iv.mk' hg b.hl ?_ e J C,.inr (.inl ?_)⟩
  ·show ZT (H.eA t) H.sp (m:Int) 1<=1000000;rw[B];omega
  ·rw[e,A];exact⟨rfl,h0,rfl,rfl⟩
theorem Mf {W:Wd}(h:WI W)(hk:W.bX[k]?=some A){j:Nat}{l:List Int}(hl:∀x∈l,∃p∈W.held,lj k (j:Int) x p=true)(hn:l.Nodup)(hj:j<W.tb.length):QG A (j:Int) l=0/\WI (W.put k (Zr A (j:Int) l) W.sp (W.held.filter λp=>!dZ k (j:Int) l p)):=by
 have ga:=h.ga k A hk;have d:jf W.held k (j:Int) l=true:=Kx.2 ⟨hl,hn⟩;obtain⟨c,w,_,g,_⟩:=ga.cl (k:=j) (by rw[h.tb k A hk];exact hj);have e:QG A (j:Int) l=0:=by
  rw[Hy ga g];refine CA ⟨λx m=>?_,hn⟩;obtain⟨p,i,b⟩:=hl x m;obtain⟨s,r,u,y⟩:=Kr.1 b;obtain⟨_,_,_,a,_⟩:=h.cls i r (by rw[s];exact hk);rw[u]at a;exact(KN g).1 a
 refine⟨e,?_⟩;have:=h.OW hk d;rw[zC e,h.ya d]at this;exact this
theorem Df {xs:List Int}{tb:List bZ}{ars0:List AR}(hH:H.tb=tb)(h:WI ⟨tb,s0,H.bX,held⟩)(hk:k<tb.length)(hxs:∀x∈xs,Um held (k:Int) x)(hn:xs.Nodup)(ha:∀p∈held,XP ars0 (p.addr:Int)=(p.k:Int)):∀j,j<=H.bX.length →
 ∃ars',KM H k (ZB ars0 xs) (List.range j) = {H with bX:=ars'}/\ars'.length=H.bX.length/\WI ⟨tb,s0,ars',held.filter λp=>!(decide (p.k<j)&&(p.cls==(k:Int)&&xs.contains (p.addr:Int)))⟩
 | 0,_=>by
  refine⟨H.bX,rfl,rfl,?_⟩;have:(held.filter λp=>!(decide (p.k<0)&&(p.cls==(k:Int)&&xs.contains (p.addr:Int))))=held:=po.2 λp _=>by simp
  rw[this];exact h
 | j+1,hj=>by
  obtain⟨ars',e,s,y⟩:=Df hH h hk hxs hn ha j O;rw[KO,e];have w:ars'[j]?=some (ars'[j]' O):=cV _;simp only[w];have b:∀{p:Pc},p∈held->p.k=j->((p.addr:Int)∈ZB ars0 xs j↔(p.addr:Int)∈xs):=λ{p} d a=>by
   unfold ZB;rw[zI,ha p d,a];simp
  have g:((held.filter λp=>!(decide (p.k<j)&&(p.cls==(k:Int)&&xs.contains (p.addr:Int)))).filter λp=>!dZ j (k:Int) (ZB ars0 xs j) p)=held.filter λp=>!(decide (p.k<j+1)&&(p.cls==(k:Int)&&xs.contains (p.addr:Int))):=by
   rw[AM];apply vd;intro p d;have e1:dZ j (k:Int) (ZB ars0 xs j) p=(p.k==j&&(p.cls==(k:Int)&&xs.contains (p.addr:Int))):=by
    unfold dZ;by_cases a:p.k=j
    ·have:=b d a;have e2:(ZB ars0 xs j).contains (p.addr:Int)=xs.contains (p.addr:Int):=by
      rw[lO,yn,yn];exact this
     rw[e2]
    ·have:(p.k==j)=false:=by simpa using a
     rw[this];rfl
   rw[e1];have B:decide (p.k<j+1)=(decide (p.k<j)||p.k==j):=by
    rw[lO];simp;omega
   rw[B];cases p.k==j<;>cases decide (p.k<j)<;>cases(p.cls==(k:Int)&&xs.contains (p.addr:Int))<;>rfl
  by_cases d:ZB ars0 xs j=[]
  ·rw[zC d];refine⟨ars',rfl,s,?_⟩;rw[←g,d];have:∀p:Pc,(!dZ j (k:Int) [] p)=true:=λp=>by simp[dZ]
   rw[po.2 λp _=>this p];exact y
  ·rw[zB d];refine⟨ars'.set j (Zr (ars'[j]' O) (k:Int) (ZB ars0 xs j)),by simp[Hw.cC],by simp[s],?_⟩;rw[←g];refine(Mf y w (j:=k) (l:=ZB ars0 xs j) (λx u=>?_) (hn.sublist sX) hk).2;unfold ZB at u;obtain⟨m,i⟩:=zI.1 u;obtain⟨p,d,z,A,r⟩:=hxs x m;have a:p.k=j:=by
    have:=ha p d;rw[r]at this;rw[this]at i;have:(p.k:Int)=(j:Int):=by simpa using i
    omega
   exact⟨p,zI.2 ⟨d,by simp[a]⟩,Kr.2 ⟨a,A,r,z⟩⟩
theorem Jk {tb:List bZ}(hH:H.tb=tb)(h:WI ⟨tb,s0,H.bX,held⟩){own:Nat}(hown:own<H.bX.length)(hk:k<tb.length){xs:List Int}(hxs:∀x∈xs,Um held (k:Int) x)(hn:xs.Nodup) :
 ∃ars' held',Hx H own k xs = {H with bX:=ars'}/\ars'.length=H.bX.length/\WI ⟨tb,s0,ars',held'⟩/\(∀c x,Um held' c x↔Um held c x/\¬(c=(k:Int)/\x∈xs))/\∀p∈held',p.eL=false->p∈held:=by
 have u:H.bX[own]?=some H.bX[own]:=cV hown;have y:∀p∈held,XP H.bX (p.addr:Int)=(p.k:Int):=λp a=>h.owner a (zD _) (by have:=(h.size_pos a).1;omega);have all:∃ars' held',KM H k (ZB H.bX xs) (List.range H.bX.length) = {H with bX:=ars'}/\ars'.length=H.bX.length/\WI ⟨tb,s0,ars',held'⟩/\(∀c x,Um held' c x↔Um held c x/\¬(c=(k:Int)/\x∈xs))/\∀p∈held',p.eL=false->p∈held:=by
  obtain⟨ars',e,r,j⟩:=Df hH h hk hxs hn y H.bX.length (zD _);refine⟨ars',_,e,r,j,λc x=>?_,λp a _=>(zI.1 a).1⟩;constructor
  ·rintro⟨p,a,g,i,d⟩;obtain⟨a,hf⟩:=zI.1 a;refine⟨⟨p,a,g,i,d⟩,?_⟩;rintro⟨rfl,b⟩;obtain⟨B,C,_⟩:=h.hf p a;have s:p.k<H.bX.length:=(cW.1 C).1;rw[i,d]at hf;simp[s,b]at hf
  ·rintro⟨⟨p,a,g,i,d⟩,hno⟩;refine⟨p,zI.2 ⟨a,?_⟩,g,i,d⟩;rw[i,d];by_cases hc:c=(k:Int)
   ·have:x∉xs:=λb=>hno ⟨hc,b⟩;simp[this]
   ·simp[hc]
 unfold Hx;rw[u];simp only;by_cases hcond:(ZB H.bX xs own).length=xs.length/\KU H.bX[own] (k:Int) xs=true
 ·rw[zC hcond];have m:∀x∈xs,XP H.bX x=(own:Int):=by
   have g:ZB H.bX xs own=xs:=by
    unfold ZB at hcond ⊢;exact List.filter_sublist.eq_of_length hcond.1
   intro x b;rw[←g]at b;unfold ZB at b;simpa using(zI.1 b).2
  have w:jf held own (k:Int) xs=true:=Kx.2 ⟨λx b=>by
   obtain⟨p,a,g,i,d⟩:=hxs x b;have A:=y p a;rw[d,m x b]at A;exact⟨p,a,Kr.2 ⟨O,i,d,g⟩⟩,hn⟩
  have j:=h.JD u w;rw[zC hcond.2]at j;exact⟨_,_,rfl,by simp[Hw.cC],j,Mt h w,F5⟩
 ·rw[zB hcond];have e:(if(ZB H.bX xs own).length=xs.length then H.cC own (QR H.bX[own] (k:Int) xs)else H)=H:=by
   split
   ·rename_i r;have z:KU H.bX[own] (k:Int) xs=false:=by
     apply mR.2;intro b;exact hcond ⟨r,b⟩
    have:QR H.bX[own] (k:Int) xs=H.bX[own]:=by unfold QR;rw[z];rfl
    rw[this];exact Cj u
   ·rfl
  rw[e];exact all
def kY:Ph->Prop
 | .find _=>True
 | .put _ _=>True
 | .back=>True
 | .dD _ _=>True
 | .drain=>True
 | _=>False
def pc (g:Th):Ph->Nat
 | .find _=>101
 | .put _ _=>100
 | .drain=>100
 | .back=>g.bP.length
 | _=>0
def m6 (H:Hw)(t:Nat)(g:Th)(p:Ph):Prop:=(Wt H t p).2.2.1=0 ∧
 ((∃p' g',(Wt H t p).2.1=some p'/\kY p'/\(∀x,p'≠.find x)/\(Qq H t p).bQ[t]?=some g'/\pc g' p'<pc g p)\/(Wt H t p).2.1=none) ∧
 ((∀x,p≠.find x)->(Wt H t p).2.2.2=0/\(Qq H t p).live=H.live) ∧
 (∀x,p=.find x->(bW H.live x=none->(Wt H t p).2.1=none/\(Wt H t p).2.2.2≠0/\(Qq H t p).live=H.live)/\(∀b,bW H.live x=some b->(Wt H t p).2.2.2=0/\(Qq H t p).live=cS H.live x))
theorem yT (hg:H.bQ[t]?=some g):jO H t=if g.bP=[]then none else some .back:=by unfold jO;rw[hg]
theorem LJ (h:HI H held s0)(hg:H.bQ[t]?=some g){x:Int}(hph:g.ph=some (.find x)):iv H t (.find x)/\m6 H t g (.find x):=by
 have J:=(cW.1 hg).1;have d:=h.th g (h.mem hg);obtain⟨P,C⟩:g.bP=[]/\iC x:=by have:=d.ph;unfold ij at this;rw[hph]at this;exact this
 have R:∀A∈H.bX,iI A:=λA V=>by
  obtain⟨j,hj⟩:=zQ V;exact(h.wi.ga j A hj).nO
 cases hm:bW H.live x with
 | none=>
  have z:Wt H t (.find x)=({H with bQ:=H.bQ.set t g},none,0,lM H x):=by
   have:H.bQ.set t g=H.bQ:=Z4 hg;rw[this];simp only[Wt,UA,hm]
  have e:=ZR J z;have G:=h.kj hg (g':={g with ph:=none}) (live':=H.live) (λE x=>by
   unfold gG;rw[hph];simp only[jy]) h.lk (λX D=>.inl D) (λs a N=>by cases N) ⟨d.ll,d.lo,d.hb,d.hl,by
    unfold ij;exact P⟩
  refine⟨iv.mk' hg d.hl ⟨C,λ_=>R,λb hb=>by rw[hm]at hb;cases hb⟩ e G (KS.refl _),?_⟩;unfold m6;rw[e,z];refine⟨rfl,.inr rfl,λi=>(i x rfl).elim,λy m=>?_⟩;cases m;refine⟨λ_=>⟨rfl,?_,rfl⟩,(λb hb=>by rw[hm]at hb;cases hb)⟩;show lM H x≠0;unfold lM
  repeat' split
  all_goals simp
 | some b=>
  have S:=Vf hm;obtain⟨_,p,N,h1,Q,Y,h4,Z⟩:=h.lv _ S;simp only at Q Y h4 Z;have U:0<=x:=by omega
  obtain⟨A,V,hd⟩:=h.wi.hf p N;have W:uj H t (.find x):=⟨C,(λi=>by rw[hm]at i;cases i),λ_ _=>U⟩;rcases hd with⟨c1,_,r,hr,c2,c3⟩|⟨j,c,c1,c2,c3,_⟩
  ·have M:b.2.2.1 = -1:=by rw[←Q,c1]
   have z:Wt H t (.find x)=({{H with live:=cS H.live x}with bQ:=H.bQ.set t g},some (.dD (x/256) b.2.2.2),0,0):=by
    have:H.bQ.set t g=H.bQ:=Z4 hg;rw[this];simp only[Wt,UA,hm];rw[zC O]
   have e:=ZR (H1:={H with live:=cS H.live x}) J z;have u:x/256*256=x:=by omega
   have G:=h.kj hg (g':={g with ph:=some (.dD (x/256) b.2.2.2)}) (live':=cS H.live x) (λE y=>by
    have w:=AW h.lk hm E y;rw[M]at w;unfold gG;rw[hph];simp only[jy,u];by_cases m:x=y
    ·subst m;rw[Ah]at w;by_cases hk : -1=E
     ·rw[zC hk]at w;rw[zC ⟨hk.symm,rfl⟩];omega
     ·rw[zB hk]at w;rw[zB (λC=>hk C.1.symm)];omega
    ·have:[x].count y=0:=xf.2 aE;rw[this]at w;rw[zB (λC=>m C.2.symm)];split at w<;>omega)
    (Go.Vc.jg h.lk) (λX D=>.inl (Gg.1 D).1) (λs a B=>by
     cases B;exact⟨p,N,h1,c1,by rw[u];exact Y,Z⟩) ⟨d.ll,d.lo,d.hb,d.hl,by
      unfold ij;exact P⟩
   refine⟨iv.mk' hg d.hl W e G (KS.refl _),?_⟩;unfold m6;rw[e,z];refine⟨rfl,.inl ⟨_,_,rfl,trivial,(λy m=>by cases m),zL J,by simp[pc]⟩,λi=>(i x rfl).elim,λy m=>?_⟩;cases m;exact⟨(λi=>by rw[hm]at i;cases i),λ_ _=>⟨rfl,rfl⟩⟩
  ·have K:b.2.2.1=(j:Int):=by rw[←Q,c1]
   have L:j<H.tb.length:=by
    rw[h.wi.tb _ _ V]at c2;exact(cW.1 c2).1
   have z:Wt H t (.find x)=({{H with live:=cS H.live x}with bQ:=H.bQ.set t {g with bP:=[(j,[x])]}},some (.put j x),0,0):=by
    simp only[Wt,UA,hm];rw[zB O,K,dE];unfold Qz;rw[Zp (g:=g) (by exact hg),P];rfl
   have e:=ZR (H1:={H with live:=cS H.live x}) J z;have G:=h.kj hg (g':={g with bP:=[(j,[x])],ph:=some (.put j x)}) (live':=cS H.live x) (λE y=>by
    have w:=AW h.lk hm E y;rw[K]at w;unfold gG;rw[hph,P];simp only[jy,Ks,Vj];omega)
    (Go.Vc.jg h.lk) (λX D=>.inl (Gg.1 D).1) (λs a B=>by cases B) ⟨d.ll,d.lo,λb' F=>by
     simp only[zN]at F;subst F;exact⟨L,by simp,by simp⟩,by simp,by
     unfold ij;exact⟨rfl,L⟩⟩
   refine⟨iv.mk' hg d.hl W e G (KS.refl _),?_⟩;unfold m6;rw[e,z];refine⟨rfl,.inl ⟨_,_,rfl,trivial,(λy m=>by cases m),zL J,by simp[pc]⟩,λi=>(i x rfl).elim,λy m=>?_⟩;cases m;exact⟨(λi=>by rw[hm]at i;cases i),λ_ _=>⟨rfl,rfl⟩⟩
theorem C4 {f:bZ->Li->List Int×Li}{tb:List bZ}{ls:List Li}{b:Bt}(h:b∈QW f tb ls):b.1<tb.length/\b.2≠[]/\∃c∈tb,∃l∈ls,b.2=(f c l).1:=by
 unfold QW at h;obtain⟨k,d,a⟩:=uH.1 h;split at a
 ·rename_i c l hc hl;split at a
  ·cases a
  ·cases a;exact⟨zc.1 d,by assumption,c,zG hc,l,zG hl,rfl⟩
 ·cases a
theorem EL {f:bZ->Li->List Int×Li}{tb:List bZ}{ls:List Li}{l':Li}(h:l'∈QS f tb ls):∃c∈tb,∃l∈ls,l'=(f c l).2:=by
 unfold QS at h;obtain⟨i,a⟩:=zQ h;rw[A5]at a;split at a
 ·rename_i c l hc hl;cases a;exact⟨c,zG hc,l,zG hl,rfl⟩
 ·cases a
theorem B0 {f:bZ->Li->List Int×Li}{tb:List bZ}{ls:List Li}(h:ls.length=tb.length):(QS f tb ls).length=tb.length:=by
 unfold QS;rw[List.length_zipWith];omega
theorem EE (c:bZ)(l:Li):(KC c l).2.os.length<=l.os.length/\(KC c l).1.length<=l.os.length:=by
 simp only[KC,gp,jX,zZ];omega
theorem EI (c:bZ)(l:Li):(ZC c l).2.os.length<=l.os.length/\(ZC c l).1.length<=l.os.length:=by
 simp only[ZC,gp,jX,zZ];omega
theorem Jt (h:HI H held s0)(hg:H.bQ[t]?=some g)(hph:g.ph=some .drain):iv H t .drain/\m6 H t g .drain:=by
 have p:=(cW.1 hg).1;have d:=h.th g (h.mem hg);have A:g.bP=[]:=by have:=d.ph;unfold ij at this;rw[hph]at this;exact this
 have w:=h.pS;have B:=A0 ZC H.tb g.ls;have u:Wt H t .drain=({H with bQ:=H.bQ.set t {g with ls:=QS ZC H.tb g.ls,bP:=QW ZC H.tb g.ls}},(if QW ZC H.tb g.ls=[]then none else some .back),0,0):=by
  simp only[Wt,Zp hg];rw[yT (g:={g with ls:=QS ZC H.tb g.ls,bP:=QW ZC H.tb g.ls}) (by simp[p])]
 have e:=ZR p u;have C:=h.kj hg (g':={ls:=QS ZC H.tb g.ls,bP:=QW ZC H.tb g.ls,ph:=if QW ZC H.tb g.ls=[]then none else some .back}) (live':=H.live) (λr x=>by
  have L:=Fo (f:=ZC) O6 d.ll r x;unfold gG;rw[hph,A];have:jy (if QW ZC H.tb g.ls=[]then none else some Ph.back) r x=0:=by split<;>rfl
  simp only[this,Vj];simp only[jy];omega) h.lk (λM z=>.inl z) (λs a m=>by
   simp only at m;split at m<;>cases m) ⟨B0 d.ll,λl hl=>by
   obtain⟨c,_,j,i,rfl⟩:=EL hl;have:=d.lo j i;have:=EI c j;exact⟨Ja (d.lo j i).1,O⟩,λb K=>by
   obtain⟨F,J,c,_,j,i,E⟩:=C4 K;have:=d.lo j i;have:=EI c j;exact⟨F,J,by rw[E];omega⟩,by simp only;omega,by
   unfold ij;by_cases ho:QW ZC H.tb g.ls=[]
   ·rw[zC ho];exact ho
   ·rw[zB ho];exact ho⟩
 refine⟨iv.mk' hg d.hl trivial e C (KS.refl _),?_⟩;unfold m6;rw[e,u];refine⟨rfl,?_,λ_=>⟨rfl,rfl⟩,λx G=>by cases G⟩;by_cases ho:QW ZC H.tb g.ls=[]
 ·exact .inr (by simp only;rw[zC ho])
 ·exact .inl ⟨.back,_,by simp only;rw[zB ho],trivial,(λy D=>by cases D),zL p,by simp only[pc];omega⟩
theorem Jr (h:HI H held s0)(hg:H.bQ[t]?=some g){s a:Int}(hph:g.ph=some (.dD s a)):iv H t (.dD s a)/\m6 H t g (.dD s a):=by
 have R:=(cW.1 hg).1;have b:=h.th g (h.mem hg);have P:g.bP=[]:=by have:=b.ph;unfold ij at this;rw[hph]at this;exact this
 obtain⟨p,C,W,L,Z,h4⟩:=h.gv g (h.mem hg) s a hph;obtain⟨A,y,_⟩:=h.wi.hf p C;have z:H.bX[p.k]?=some A:=y;have U:=(cW.1 z).1;obtain⟨_,r,G,X,c3⟩:=h.wi.run C L y;have ga:=h.wi.ga _ _ y;have d:s=(r.1:Int):=by omega
 have M:KG A s=0:=by
  unfold KG;rw[zC];unfold pA;rw[Au];exact⟨r,G,by simp[d]⟩
 have D:jf held p.k (-1) [s*256]=true:=by rw[d];exact h.wi.mF y G
 have wi:=h.wi.wu y s;rw[zC M,h.wi.ya D]at wi;have u:a.toNat=p.k:=by omega
 have K:Wt H t (.dD s a)=({H.cC p.k (Qo A s)with bQ:=H.bQ.set t g},none,0,0):=by
  have:H.bQ.set t g=H.bQ:=Z4 hg;rw[this];simp only[Wt,u,z,Hw.cC]
 have e:=ZR (H1:=H.cC p.k (Qo A s)) R K;have Q:=h.fo hg (g':={g with ph:=none}) (live':=H.live) wi h.mI rfl (by simp[Wd.put]) (λq F _=>.inl (zI.1 F).1) (λm x=>by
  have i:=B7 (held':=held.filter λE=>!dZ p.k (-1) [s*256] E) (l:=[s*256]) (cl:=-1) aA (Jf D) (I8 h.wi D) m x;have i:kI held m x=kI (held.filter λE=>!dZ p.k (-1) [s*256] E) m x+(if -1=m then[s*256].count x else 0):=i
  unfold gG;rw[hph];simp only[jy];by_cases hy:s*256=x
  ·subst hy;rw[Ah]at i;by_cases hk : -1=m
   ·rw[zC hk]at i;rw[zC ⟨hk.symm,rfl⟩];omega
   ·rw[zB hk]at i;rw[zB (λw=>hk w.1.symm)];omega
  ·have:[s*256].count x=0:=xf.2 aE;rw[this]at i;rw[zB (λw=>hy w.2.symm)];split at i<;>omega) h.lk (λY N=>.inl N) (λs a C=>by cases C) ⟨b.ll,b.lo,b.hb,b.hl,by
   unfold ij;exact P⟩
 refine⟨iv.mk' hg b.hl ⟨O,O,λB S q F=>?_⟩ e Q (KS.refl _),?_⟩
 ·obtain⟨j,V⟩:=zQ S;have J:=h.wi.ga j B V;have:=J.fit F;have:=J.pg.n2;omega
 ·unfold m6;rw[e,K];exact⟨rfl,.inr rfl,λ_=>⟨rfl,rfl⟩,λx w=>by cases w⟩
theorem Jg (h:HI H held s0)(hg:H.bQ[t]?=some g)(hph:g.ph=some .back):iv H t .back/\m6 H t g .back:=by
 have D:=(cW.1 hg).1;have d:=h.th g (h.mem hg);have P:g.bP≠[]:=by have:=d.ph;unfold ij at this;rw[hph]at this;exact this
 have z:=HT hg;cases hhd:g.bP with
 | nil=>exact(P hhd).elim
 | cons b r=>
  obtain⟨k,B⟩:=b;obtain⟨K,C,F⟩:=d.hb (k,B) (by rw[hhd];simp);simp only at K C F;have j:∀x,B.count x<=gG g (k:Int) x:=λx=>by
   unfold gG;rw[hhd,Ks,zC rfl];simp only;omega
  have i:∀x∈B,Um held (k:Int) x:=λx u=>h.qd (h.mem hg) (ze (Ay.2 u) (j x));have A:B.Nodup:=Am.2 λx=>by
   have M:=j x;have V:=h.oL (h.mem hg) (k:Int) x;have X:=DS held (k:Int) x;omega
  obtain⟨m,G,S,E,wi,um,sub⟩:=Jk (H:={H with bQ:=H.bQ.set t {g with bP:=r}}) (tb:=H.tb) rfl h.wi (h.jU t) K i A;have L:Wt H t .back=({{H with bX:=m}with bQ:=H.bQ.set t {g with bP:=r}},(if r=[]then none else some .back),0,0):=by
   simp only[Wt,z,hhd,Zp hg,S];rw[yT (g:={g with bP:=r}) (by simp[D])]
  have e:=ZR (H1:={H with bX:=m}) D L;have Q:=h.fo hg (g':={g with bP:=r,ph:=if r=[]then none else some .back}) (live':=H.live) wi h.mI rfl E (λp w U=>.inl (sub p w U)) (λJ x=>by
   have M:=B7 A i um J x;unfold gG;rw[hph,hhd,Ks];have:jy (if r=[]then none else some Ph.back) J x=0:=by split<;>rfl
   simp only[this];simp only[jy];omega) h.lk (λW N=>.inl N) (λs a w=>by
    simp only at w;split at w<;>cases w) ⟨d.ll,d.lo,λb hb=>d.hb b (by rw[hhd];exact np _ hb),by have:=d.hl;rw[hhd]at this;simp at this ⊢;omega,by
    unfold ij;by_cases ho:r=[]
    ·rw[zC ho];exact ho
    ·rw[zB ho];exact ho⟩
  refine⟨iv.mk' hg d.hl ⟨k,B,r,by rw[z];exact hhd,λx u=>⟨(h.i63 (i x u)).1,(h.i63 (i x u)).2.2⟩,O⟩ e Q (KS.refl _),?_⟩;unfold m6;rw[e,L];refine⟨rfl,?_,λ_=>⟨rfl,rfl⟩,λx u=>by cases u⟩;by_cases ho:r=[]
  ·exact .inr (by simp only;rw[zC ho])
  ·exact .inl ⟨.back,_,by simp only;rw[zB ho],trivial,(λy R=>by cases R),zL D,by simp only[pc];rw[hhd];simp⟩
theorem Mb (h:HI H held s0)(hg:H.bQ[t]?=some g){x:Int}(hph:g.ph=some (.put k x)):iv H t (.put k x)/\m6 H t g (.put k x):=by
 have B:=(cW.1 hg).1;have r:=h.th g (h.mem hg);obtain⟨J,L⟩:g.bP=[(k,[x])]/\k<H.tb.length:=by have:=r.ph;unfold ij at this;rw[hph]at this;exact this
 obtain⟨c,hc,G⟩:=h.cls L;obtain⟨l,hl,U,F,hlm⟩:=r.li L;have D:=HT hg;have h40:=h.pS;have P:=NO (x:=x) G F;have Y:=MT c x l O;have R:(dJ c x l).1.length<=129/\(dJ c x l).2.os.length<=128:=by
  have ab:=F.lim;have u:(eD [x] l).os=l.os++[x]:=by unfold eD;rw[zB aE]
  have V:(mb c (eD [x] l)).os=l.os++[x]:=by rw[←u];unfold mb;split<;>rfl
  unfold bZ.ok at G;unfold dJ;rw[zB O];split
  ·rw[u];simp;omega
  ·simp only[gp,V,zZ,jX,zP,Bp];omega
 obtain⟨W,Z⟩:=r.gI (k:=k) P R.2;have S:∃hs:List Bt,(if(dJ c x l).1=[]then[]else[(k,(dJ c x l).1)])=hs:=⟨_,rfl⟩
 obtain⟨i,j⟩:=S;have ac:i.length<=1:=by rw[←j];split<;>simp
 have w:∀b∈i,b.1<H.tb.length/\b.2≠[]/\b.2.length<=256:=λb p=>by
  rw[←j]at p;split at p
  ·simp at p
  ·simp only[zN]at p;subst p;exact⟨L,by assumption,by simp only;omega⟩
 have C:∀d y,lD i d y=if(k:Int)=d then(dJ c x l).1.count y else 0:=λd y=>by
  rw[←j];split
  ·rename_i hn;rw[hn,Vj];simp
  ·simp only[Ks,Vj,jY]
 let g3:Th:={g with ls:=g.ls.set k (dJ c x l).2,bP:=i}
 let g4:Th:=if H.cf.dA<QN H.tb g3.ls then{g3 with ls:=QS KC H.tb g3.ls,bP:=g3.bP++QW KC H.tb g3.ls}else g3
 have X:il H t k x = {H with bQ:=H.bQ.set t g4}:=by
  have e2:(if(dJ c x l).1=[]then H.dS t λh=>h.gI k (dJ c x l).2 else Qz (H.dS t λh=>h.gI k (dJ c x l).2) t k (dJ c x l).1) = {H with bQ:=H.bQ.set t {g with ls:=g.ls.set k (dJ c x l).2,bP:=(k,[x])::i}}:=by
   rw[←j];split
   ·rw[Zp hg,←J];rfl
   ·rw[Zp hg];unfold Qz;rw[Zp (g:=g.gI k (dJ c x l).2) (by simp[B])];simp only[ni,Th.gI,J];rfl
  have e3:({H with bQ:=H.bQ.set t {g with ls:=g.ls.set k (dJ c x l).2,bP:=(k,[x])::i}}:Hw).dS t (λh=>{h with bP:=h.bP.drop 1}) = {H with bQ:=H.bQ.set t g3}:=by
   rw[Zp (g:={g with ls:=g.ls.set k (dJ c x l).2,bP:=(k,[x])::i}) (by simp[B])];simp only[ni,xH,List.drop_zero];rfl
  have z:({H with bQ:=H.bQ.set t g3}:Hw).bQ[t]?=some g3:=by simp[B]
  unfold il;simp only[VQ hc,D,U,e2,e3,HT z,Zp z,ni];show(if H.cf.dA<QN H.tb g3.ls then _ else _)=_
  simp only[g4];split<;>rfl
 have hg4:g4.ph=g.ph:=by simp only[g4];split<;>rfl
 have aa:∀d y,k6 g4.ls d y+lD g4.bP d y=k6 g.ls d y+lD g.bP d y:=λd y=>by
  have M:=GB hl (dJ c x l).2 d y;have h2:=Y y;have h3:k6 g3.ls d y+lD g3.bP d y=k6 g.ls d y+lD g.bP d y:=by
   simp only[g3];rw[C,J,Ks,Vj];by_cases hkk:(k:Int)=d
   ·simp only[hkk,zR]at M ⊢;omega
   ·simp only[hkk,zy]at M ⊢;omega
  simp only[g4];split
  ·have h4:=Fo (f:=KC) Jp (tb:=H.tb) (ls:=g3.ls) W d y;simp only[Da];omega
  ·exact h3
 have m:g4.ls.length=H.tb.length/\(∀l∈g4.ls,fK l/\l.os.length<=128)/\(∀b∈g4.bP,b.1<H.tb.length/\b.2≠[]/\b.2.length<=256)/\g4.bP.length<=41:=by
  have hsl:=A0 KC H.tb g3.ls;simp only[g4];split
  ·refine⟨B0 W,λl hl=>?_,λb p=>?_,by simp only[zP,g3]at *;omega⟩
   ·obtain⟨K,Q,E,A,rfl⟩:=EL hl;have h5:=Z E A;have:=EE K E;exact⟨CM (h.ok K Q) h5.1,O⟩
   ·rcases zK.1 p with p|p
    ·exact w b p
    ·obtain⟨b1,b2,K,_,E,A,b3⟩:=C4 p;have h5:=Z E A;have:=EE K E;exact⟨b1,b2,by rw[b3];omega⟩
  ·exact⟨W,Z,w,by simp only[g3];omega⟩
 have hs:Wt H t (.put k x)=({H with bQ:=H.bQ.set t g4},(if g4.bP=[]then none else some .back),0,0):=by
  show(il H t k x,jO (il H t k x) t,0,0)=_;rw[X,yT (g:=g4) (by simp[B])]
 have e:=ZR B hs;have hi:=h.kj hg (g':={g4 with ph:=if g4.bP=[]then none else some .back}) (live':=H.live) (λd y=>by
  have M:=aa d y;unfold gG;rw[hph];have:jy (if g4.bP=[]then none else some Ph.back) d y=0:=by split<;>rfl
  simp only[this];simp only[jy];omega) h.lk (λe' he=>.inl he) (λs a N=>by
   simp only at N;split at N<;>cases N) ⟨m.1,m.2.1,m.2.2.1,m.2.2.2,by
   unfold ij;by_cases ho:g4.bP=[]
   ·simp only[ho,zR]
   ·simp only[ho,zy];exact ho⟩
 refine⟨iv.mk' hg r.hl ⟨L,by rw[D,J];simp⟩ e hi (KS.refl _),?_⟩;unfold m6;rw[e,hs];refine⟨rfl,?_,λ_=>⟨rfl,rfl⟩,λx hx=>by cases hx⟩;by_cases ho:g4.bP=[]
 ·exact .inr (by simp only;rw[zC ho])
 ·exact .inl ⟨.back,_,by simp only;rw[zB ho],trivial,(λy hy=>by cases hy),zL B,by simp only[pc];have:=m.2.2.2;omega⟩
end Go.Ar
namespace Go.Ar
open Go Go.Vc Go.Proofs
open Go.Bu (eU KP Uz)
variable {U u w w':Hp}{F B P Q:Rg}{L:dH}{H H':Hw}{t n:Nat}{g:Th}
def xh (size:Int):Int:=(size+255)/256*256
def GH (tb:List bZ)(size align:Int):Int×Int:=
 if size<=16384/\Us size align=true then(match gJ tb size align with
  | some k=>((tb.getD k ⟨8,1,1⟩).size:Int)
  | none=>xh size,0)else(0,1)
theorem Ns {a:Int}(h1:1<=a)(h2:a<=256):(bits .and .i64 a (a-1) != 0) = !eU a:=by
 obtain⟨a,rfl⟩:=za (show 0<=a by omega);rw[show(a:Int)-1=((a-1:Nat):Int) by omega,Go.Bu.iN O O,KP,←Uz O O];simp only[bne,Bool.not_inj_iff];rw[lO];simp only[zS];omega
def QH (sp:Sp)(x:Int):Int:=if eH sp x=0 then sp.wd (x.toNat/8)else 0
theorem DG (h:HH U F L H)(x:Int)(hx:x<=9223372036854775807){R:Int->Int->Hp->Prop}(hR:∀σ',bK U σ'->R (QH H.sp x) (eH H.sp x) σ'):YN.c (aW L.p) x U R:=PC h x hx hR
end Go.Ar
namespace Go.Ar
open Go Go.Vc Go.Proofs
variable {U u w w':Hp}{F B P Q:Rg}{L:dH}{H H':Hw}{t n:Nat}{g:Th}
def Ke (H:Hw)(x:Int):Option Int:=(bW H.live x).map λb=>b.2.1
theorem Cn {tb:List bZ}{size align:Int}{k:Nat}(h:gJ tb size align=some k):k<tb.length:=(List.findIdx?_eq_some_iff_findIdx_eq.1 h).1
theorem Fz (h:HH U F L H)(x:Int){R:Int->Int->Hp->Prop}(hR:∀σ',bK U σ'->R ((Ke H x).getD 0) (if(Ke H x).isSome then 0 else 8) σ'):Xx.c (aW L.p) x U R:=by
 refine OF h x λσ' e=>?_;have:=hR σ' e;unfold Ke at this;cases hm:bW H.live x with
 | none=>rw[hm]at this;exact this
 | some b=>rw[hm]at this;exact this
end Go.Ar
namespace Go.Ar
open Go.Vc (bW dB cS)
variable {H H':Hw}{held:List Pc}{s0:Sp}{t k j:Nat}{g:Th}{A:AR}{c:bZ}
theorem Ku (f:Th->Th)(hj:j≠t):(H.dS t f).bQ[j]?=H.bQ[j]? := by
 simp[Hw.dS,r8,Ne.symm hj]
theorem Rz (x:Int)(hj:j≠t):(il H t k x).bQ[j]?=H.bQ[j]? := by
 unfold il Qz;simp only;split<;>split<;>simp only[Ku _ hj]
theorem LP (p:Ph)(hj:j≠t):(Wt H t p).1.bQ[j]?=H.bQ[j]? := by
 cases p with
 | take k=>simp only[Wt];split<;>simp only[Vk,Ku _ hj]
 | cH k w=>
  simp only[Wt];split
  ·split
   ·unfold Qz;rw[Ku _ hj];rfl
   ·rfl
  ·rfl
 | cJ k w=>
  simp only[Wt];split
  ·rfl
  ·unfold Qz;rw[Ku _ hj];rfl
 | grow k w=>simp only[Wt];split<;>rfl
 | fill=>simp only[Wt];split<;>simp only[Vk,Ku _ hj]
 | eI m=>simp only[Wt];split<;>rfl
 | find x=>
  simp only[Wt,UA];split
  ·rfl
  ·split
   ·rfl
   ·unfold Qz;rw[Ku _ hj]
 | put k x=>exact Rz x hj
 | back=>
  simp only[Wt];split
  ·rw[Bq,Ku _ hj]
  ·rfl
 | dD s a=>simp only[Wt];split<;>rfl
 | drain=>simp only[Wt,Ku _ hj]
theorem Uc (p:Ph)(hj:j≠t):(Qq H t p).bQ[j]?=H.bQ[j]? := by
 unfold Qq eN;rw[Ku _ hj,LP p hj]
def fN (H:Hw)(j:Nat):Option Ph:=(H.bQ[j]?).bind (·.ph)
def uR (H H':Hw)(t:Nat):Prop:=fN H' t=none/\∀j,j≠t->fN H' j=fN H j
theorem Be (h:HI H held s0)(hg:H.bQ[t]?=some g){p:Ph}(hp:g.ph=some p)(hf:¬kY p):∃cl sz,Rq H.tb g p cl sz:=by
 have b:=(h.th g (h.mem hg)).ph;unfold ij at b;rw[hp]at b;cases p with
 | take k=>obtain⟨c,d,_⟩:=h.cls b.2;exact⟨_,_,rfl,c,d,rfl⟩
 | cH k w=>obtain⟨c,d,_⟩:=h.cls b.2.1;exact⟨_,_,rfl,c,d,rfl⟩
 | cJ k w=>obtain⟨c,d,_⟩:=h.cls b.2.1;exact⟨_,_,rfl,c,d,rfl⟩
 | grow k w=>obtain⟨c,d,_⟩:=h.cls b.2.1;exact⟨_,_,rfl,c,d,rfl⟩
 | fill=>
  obtain⟨k,x,j,i,e,_⟩:=b;obtain⟨c,d,_⟩:=h.cls e;exact⟨_,_,k,_,[],c,i,rfl,d,rfl⟩
 | eI m=>exact⟨_,_,rfl,rfl⟩
 | find x=>exact(hf trivial).elim
 | put k x=>exact(hf trivial).elim
 | back=>exact(hf trivial).elim
 | dD s a=>exact(hf trivial).elim
 | drain=>exact(hf trivial).elim
theorem qn (h:HI H held s0)(hg:H.bQ[t]?=some g){p:Ph}(hp:g.ph=some p){cl sz:Int}(hr:Rq H.tb g p cl sz):iv H t p/\sL H t p cl sz:=by
 cases p with
 | take k=>exact NJ h hg hp hr
 | cH k w=>exact Ot h hg hp hr
 | cJ k w=>exact LU h hg hp hr
 | grow k w=>exact Ni h hg hp hr
 | fill=>exact MB h hg hp hr
 | eI m=>exact Jb h hg hp hr
 | find x=>exact hr.elim
 | put k x=>exact hr.elim
 | back=>exact hr.elim
 | dD s a=>exact hr.elim
 | drain=>exact hr.elim
theorem qt (h:HI H held s0)(hg:H.bQ[t]?=some g){p:Ph}(hp:g.ph=some p)(hf:kY p):iv H t p/\m6 H t g p:=by
 cases p with
 | take k=>exact hf.elim
 | cH k w=>exact hf.elim
 | cJ k w=>exact hf.elim
 | grow k w=>exact hf.elim
 | fill=>exact hf.elim
 | eI m=>exact hf.elim
 | find x=>exact LJ h hg hp
 | put k x=>exact Mb h hg hp
 | back=>exact Jg h hg hp
 | dD s a=>exact Jr h hg hp
 | drain=>exact Jt h hg hp
open Classical in
theorem HI.Jo (h:HI H held s0)(hg:H.bQ[t]?=some g){p:Ph}(hp:g.ph=some p):iv H t p:=by
 by_cases hf:kY p
 ·exact(qt h hg hp hf).1
 ·obtain⟨cl,b,a⟩:=Be h hg hp hf;exact(qn h hg hp a).1
theorem UZ {p:Ph}(ht:t<H.bQ.length):∃g',(Qq H t p).bQ[t]?=some g'/\g'.ph=(Wt H t p).2.1:=DI ht
theorem C9 {cl sz:Int}:∀(n:Nat) {H:Hw} {held:List Pc} {s0:Sp} {g:Th} {p:Ph},HI H held s0->H.bQ[t]?=some g->g.ph=some p->Rq H.tb g p cl sz->GD H t p<=n →
 ∃m H' a e,iy m H t p H' a e/\(∃held s0,HI H' held s0)/\KS H.sp H'.sp/\uR H H' t/\((e≠0/\a=0/\H'.live=H.live)\/(e=0/\bW H.live a=none/\H'.live=dB H.live a (a,sz,cl,XP H'.bX a)))
 | n,H,held,s0,g,p,h,hg,hp,hr,hn=>by
  have ht:=(cW.1 hg).1;obtain⟨s,E⟩:=qn h hg hp hr;have i:(Wt H t p).2.1=none->uR H (Qq H t p) t:=λF=>by
   obtain⟨C,y,z⟩:=UZ (p:=p) ht;exact⟨by unfold fN;rw[y];exact z.trans F,λj u=>by unfold fN;rw[Uc p u]⟩
  rcases E with⟨p',C,e1,e2,e3,e4,e5⟩|⟨e1,e2,e3,e4⟩|⟨e1,e2,e3,e4⟩
  ·obtain⟨x,B,D⟩:=s.hi;obtain⟨J,d,kE⟩:=UZ (p:=p) ht;rw[e3]at d;cases d;have w:(Qq H t p).tb=H.tb:=(Ui H t p).1;have G:GD (Qq H t p) t p'<n:=by omega
   obtain⟨m,H',a,e,r,hi,ks,A,b⟩:=C9 (GD (Qq H t p) t p') D e3 (kE.trans e1) (by rw[w];exact e4) (zD _);refine⟨m+1,H',a,e,.next s.ok e1 r,hi,s.ks.trans ks,⟨A.1,λj u=>(A.2 j u).trans (by unfold fN;rw[Uc p u])⟩,?_⟩;rw[e2]at b;exact b
  ·exact⟨1,_,_,_,.done s.ok e1,s.hi,s.ks,i e1,.inl ⟨e2,e3,e4⟩⟩
  ·exact⟨1,_,_,_,.done s.ok e1,s.hi,s.ks,i e1,.inr ⟨e2,e3,e4⟩⟩
termination_by n=>n
theorem B4:∀(n:Nat) {H:Hw} {held:List Pc} {s0:Sp} {g:Th} {p:Ph},HI H held s0->H.bQ[t]?=some g->g.ph=some p->kY p->pc g p<=n →
 ∃m H' e,iy m H t p H' 0 e/\(∃held s0,HI H' held s0)/\KS H.sp H'.sp/\uR H H' t/\((∀x,p≠.find x)->e=0/\H'.live=H.live) ∧
  (∀x,p=.find x->(bW H.live x=none->e≠0/\H'.live=H.live)/\(∀b,bW H.live x=some b->e=0/\H'.live=cS H.live x))
 | n,H,held,s0,g,p,h,hg,hp,hf,hn=>by
  have ht:=(cW.1 hg).1;obtain⟨s,M,N,F,a⟩:=qt h hg hp hf;rcases N with⟨p',w,e1,e2,e3,e4,e5⟩|e1
  ·obtain⟨C,K,L⟩:=s.hi;obtain⟨R,i,kE⟩:=UZ (p:=p) ht;rw[e4]at i;cases i;have P:pc w p'<n:=by omega
   obtain⟨m,H',e,r,hi,ks,G,y,_⟩:=B4 (pc w p') L e4 (kE.trans e1) e2 (zD _);obtain⟨E,J⟩:=y e3;refine⟨m+1,H',e,.next s.ok e1 r,hi,s.ks.trans ks,⟨G.1,λj u=>(G.2 j u).trans (by unfold fN;rw[Uc p u])⟩,λd=>⟨E,J.trans (F d).2⟩,λx d=>⟨λA=>?_,λb Q=>⟨E,J.trans ((a x d).2 b Q).2⟩⟩⟩;have:=((a x d).1 A).1;rw[e1]at this;cases this
  ·have z:uR H (Qq H t p) t:=by
    obtain⟨w,D,B⟩:=UZ (p:=p) ht;exact⟨by unfold fN;rw[D];exact B.trans e1,λj u=>by unfold fN;rw[Uc p u]⟩
   have r:=iy.done (H:=H) (t:=t) s.ok e1;rw[M]at r;exact⟨1,_,_,r,s.hi,s.ks,z,F,λx d=>⟨λA=>((a x d).1 A).2,(a x d).2⟩⟩
termination_by n=>n
structure fY (H H':Hw):Prop where
 hi:∃held s0,HI H' held s0
 ks:KS H.sp H'.sp
 kp:Qr H' H
 ph:∀j,fN H' j=fN H j
theorem fY.refl (h:HI H held s0):fY H H:=⟨⟨held,s0,h⟩,KS.refl _,Qr.refl _,λ_=>rfl⟩
theorem fY.trans {H1 H2 H3:Hw}(a:fY H1 H2)(b:fY H2 H3):fY H1 H3:=⟨b.hi,a.ks.trans b.ks,a.kp.trans b.kp,λj=>(b.ph j).trans (a.ph j)⟩
theorem FL {tb:List bZ}{kind size align addr:Int}{p:Ph}(h:iG tb kind size align addr=some p)(hx:iC addr)(hh:g.bP=[]):ij tb.length {g with ph:=some p}:=by
 unfold iG at h;split at h
 ·split at h
  ·split at h
   ·split at h
    ·rename_i k hk;cases h;exact⟨hh,Cn hk⟩
    ·cases h;exact⟨hh,O,O⟩
   ·cases h
  ·cases h
 ·split at h
  ·cases h;exact⟨hh,hx⟩
  ·split at h
   ·cases h;exact hh
   ·cases h
theorem HI.eN (h:HI H held s0)(hg:H.bQ[t]?=some g)(hn:g.ph=none){p:Ph}(hp:ij H.tb.length {g with ph:=some p})(hq:∀s a,p≠.dD s a):HI (eN H t (some p)) held s0:=by
 have b:=h.th g (h.mem hg);have e:Go.Ar.eN H t (some p) = {H with bQ:=H.bQ.set t {g with ph:=some p}}:=Zp hg _;rw[e];refine h.kj hg (live':=H.live) (λi x=>?_) h.lk (λj d=>.inl d) (λs a hp=>by cases hp;exact(hq s a rfl).elim) ⟨b.ll,b.lo,b.hb,b.hl,hp⟩;unfold gG;rw[hn];have:jy (some p) i x=0:=by
  cases p<;>first|rfl|exact(hq _ _ rfl).elim
 simp only[this];simp only[jy]
theorem DL (h:HI H held s0)(hg:H.bQ[t]?=some g)(hn:g.ph=none):g.bP=[]:=by
 have:=(h.th g (h.mem hg)).ph;unfold ij at this;rw[hn]at this;exact this
theorem HR (H:Hw)(thread kind size align addr:Int):(∃e,Kc H thread kind size align addr=.inl e/\e≠0)\/∃(t:Nat) (p:Ph) (g:Th),thread=(t:Int)/\H.bQ[t]?=some g/\g.ph=none/\iG H.tb kind size align addr=some p/\Kc H thread kind size align addr=.inr (t,p):=by
 unfold Kc;split
 ·split
  ·split
   ·split
    ·rename_i hth _ g hg hn _ p hp;exact .inr ⟨thread.toNat,p,g,O,hg,hn,hp,rfl⟩
    ·exact .inl ⟨1,rfl,by decide⟩
   ·exact .inl ⟨5,rfl,by decide⟩
  ·exact .inl ⟨1,rfl,by decide⟩
 ·exact .inl ⟨1,rfl,by decide⟩
theorem OC (hg:H.bQ[t]?=some g)(p:Option Ph)(hj:j≠t):fN (eN H t p) j=fN H j:=by
 unfold fN eN;rw[Ku _ hj]
theorem DQ (hg:H.bQ[t]?=some g)(hn:g.ph=none){p:Ph}(ps:uR (eN H t (some p)) H' t):∀j,fN H' j=fN H j:=λj=>by
 by_cases hj:j=t
 ·subst hj;rw[ps.1];unfold fN;rw[hg];exact hn.symm
 ·rw[ps.2 j hj,OC hg _ hj]
def pJ (H:Hw)(size align:Int)(H':Hw)(a e:Int):Prop:=(e≠0/\a=0/\H'.live=H.live) ∨
 (e=0/\bW H.live a=none/\(1<=size/\size<=16384/\Us size align=true)/\∃cl,H'.live=dB H.live a (a,(GH H.tb size align).1,cl,XP H'.bX a)/\((∃k:Nat,cl=k/\gJ H.tb size align=some k)\/cl = -1/\gJ H.tb size align=none))
theorem Ig (h:HI H held s0)(thread size align:Int):∃H' a e,Ua H thread 0 size align 0 H' a e/\fY H H'/\pJ H size align H' a e:=by
 rcases HR H thread 0 size align 0 with⟨e,hs,hne⟩|⟨t,p,g,rfl,hg,hn,hq,hs⟩
 ·exact⟨H,0,e,.inl ⟨hs,hne,rfl,rfl⟩,fY.refl h,.inl ⟨hne,rfl,rfl⟩⟩
 ·have B:=DL h hg hn;have x:=FL (g:=g) hq (by unfold iC;decide) B;unfold iG at hq;rw[zC rfl]at hq;split at hq
  ·rename_i hsz;split at hq
   ·rename_i hok;have b:GH H.tb size align=(match gJ H.tb size align with
     | some k=>((H.tb.getD k ⟨8,1,1⟩).size:Int)
     | none=>xh size,0):=by
     unfold GH;rw[zC ⟨hsz.2,hok⟩]
     first|done | (cases gJ H.tb size align<;>rfl)
    obtain⟨cl,d,w⟩:∃cl,Rq H.tb {g with ph:=some p} p cl (GH H.tb size align).1/\((∃k:Nat,cl=k/\gJ H.tb size align=some k)\/cl = -1/\gJ H.tb size align=none):=by
     cases hcv:gJ H.tb size align with
     | some k=>
      rw[hcv]at hq b;cases hq;have u:=Cn hcv;have z:H.tb[k]?=some H.tb[k]:=cV u;refine⟨k,⟨rfl,H.tb[k],z,?_⟩,.inl ⟨k,rfl,rfl⟩⟩;rw[b];simp only;rw[zO,z];rfl
     | none=>
      rw[hcv]at hq b;cases hq;refine⟨-1,⟨rfl,?_⟩,.inr ⟨rfl,rfl⟩⟩;rw[b];simp only;unfold xh;omega
    have i:∀s a,p≠.dD s a:=λs a e=>by subst e;exact d.elim
    have A:=h.eN hg hn x i;have y:(Go.Ar.eN H t (some p)).bQ[t]?=some {g with ph:=some p}:=by
     have E:=(cW.1 hg).1;have e:Go.Ar.eN H t (some p) = {H with bQ:=H.bQ.set t {g with ph:=some p}}:=Zp hg _;rw[e];simp[E]
    obtain⟨m,H',a,e,r,C,ks,D,j⟩:=C9 _ A y rfl d (zD _);refine⟨H',a,e,.inr ⟨t,p,m,hs,r⟩,⟨C,ks,(Ky _ _ _).trans (CY r),DQ hg hn D⟩,?_⟩;rcases j with⟨r1,r2,r3⟩|⟨r1,r2,r3⟩
    ·exact .inl ⟨r1,r2,r3⟩
    ·exact .inr ⟨r1,r2,⟨hsz.1,hsz.2,hok⟩,cl,r3,w⟩
   ·cases hq
  ·cases hq
def oS (H:Hw)(thread addr:Int)(H':Hw)(e:Int):Prop:=
 (e≠0/\H'=H/\Kc H thread 1 0 0 addr=.inl e)\/((∃p,Kc H thread 1 0 0 addr=.inr p)/\bW H.live addr=none/\e≠0/\H'.live=H.live)\/((∃p,Kc H thread 1 0 0 addr=.inr p)/\∃b,bW H.live addr=some b/\e=0/\H'.live=cS H.live addr)
theorem Oz (h:HI H held s0)(hg:H.bQ[t]?=some g)(hn:g.ph=none){p:Ph}(hp:ij H.tb.length {g with ph:=some p})(hf:kY p)(hq:∀s a,p≠.dD s a):∃m H' e,iy m (eN H t (some p)) t p H' 0 e/\fY H H'/\((∀x,p≠.find x)->e=0/\H'.live=H.live) ∧
 (∀x,p=.find x->(bW H.live x=none->e≠0/\H'.live=H.live)/\(∀b,bW H.live x=some b->e=0/\H'.live=cS H.live x)):=by
 have j:=h.eN hg hn hp hq;have d:(Go.Ar.eN H t (some p)).bQ[t]?=some {g with ph:=some p}:=by
  have y:=(cW.1 hg).1;have e:Go.Ar.eN H t (some p) = {H with bQ:=H.bQ.set t {g with ph:=some p}}:=Zp hg _;rw[e];simp[y]
 obtain⟨m,H',e,r,w,ks,u,i,z⟩:=B4 _ j d rfl hf (zD _);exact⟨m,H',e,r,⟨w,ks,(Ky _ _ _).trans (CY r),DQ hg hn u⟩,i,z⟩
theorem LM (h:HI H held s0)(thread addr:Int)(hx:iC addr):∃H' e,Ua H thread 1 0 0 addr H' 0 e/\fY H H'/\oS H thread addr H' e:=by
 rcases HR H thread 1 0 0 addr with⟨e,hs,hne⟩|⟨t,p,g,rfl,hg,hn,hq,hs⟩
 ·exact⟨H,e,.inl ⟨hs,hne,rfl,rfl⟩,fY.refl h,.inl ⟨hne,rfl,hs⟩⟩
 ·have d:=FL (g:=g) hq hx (DL h hg hn);have j:p=.find addr:=by unfold iG at hq;simp at hq;exact hq.symm
  subst j;obtain⟨m,H',e,r,op,_,i⟩:=Oz h hg hn d trivial (λs a e=>by cases e);refine⟨H',e,.inr ⟨t,_,m,hs,r⟩,op,?_⟩;cases hm:bW H.live addr with
  | none=>exact .inr (.inl ⟨⟨_,hs⟩,hm,(i addr rfl).1 hm⟩)
  | some b=>exact .inr (.inr ⟨⟨_,hs⟩,b,hm,(i addr rfl).2 b hm⟩)
end Go.Ar
namespace Go.Ar
open Go Go.Vc Go.Proofs
variable {U u w w':Hp}{F B P Q:Rg}{L:dH}{H H':Hw}{t n k:Nat}{A:AR}{Y:Lay}
theorem Fr.refl (A:AR):Fr A A:=⟨rfl,rfl,rfl⟩
theorem Fr.trans {A B C:AR}(h:Fr B A)(k:Fr C B):Fr C A:=⟨k.1.trans h.1,k.2.1.trans h.2.1,k.2.2.trans h.2.2⟩
end Go.Ar
namespace Go.Ar
variable {A:AR}
def qz (tb:List bZ)(n room m:Nat):Wd:=⟨tb,KY n,List.replicate m (fA n room tb),[]⟩
theorem Oo {n room:Nat}{tb:List bZ}(h1:32<=n)(h2:n<=1024)(h3:n%16=0)(h6:tb.length<=40)(h7:∀c∈tb,c.ok):GA (fA n room tb)/\∀p,(fA n room tb).f p=0:=by
 have i:∀p,(fA n room tb).f p=0:=λp=>by
  show(List.replicate n 0).getD p 0=0;rw[zO,lX];split<;>rfl
 have b:∀{k:Nat} {g:List cG},(List.replicate tb.length ([]:List cG))[k]?=some g->g=[]:=λh=>by
  rw[lX]at h;split at h<;>simp at h;exact h
 have a:∀{k:Nat} {t:gE},(List.replicate tb.length (⟨0,[]⟩:gE))[k]?=some t->t.bs=[]:=λh=>by
  rw[lX]at h;split at h<;>simp at h;rw[←h]
 refine⟨⟨⟨by simp[fA],h1,h2,h3,λp=>by rw[i];omega,λp=>by rw[i];simp[fA],λp=>by rw[i];simp[fA,Go.Bu.ir],λp=>by rw[i,i]⟩,h6,by simp[fA],by simp[fA],λk c g d=>?_,λk c g d s m=>?_,λk c g d p=>?_,λp=>?_,λp=>.inr (Nat.zero_le _),by simp[fA],by simp[fA],λk t j=>?_,λk c g t d j=>?_,λk c t d j=>?_⟩,i⟩
 ·have e:=b d.2;subst e;exact⟨h7 c (zG d.1),by simp,by simp⟩
 ·have e:=b d.2;subst e;simp at m
 ·have e:=b d.2;subst e;constructor
  ·intro h;cases h
  ·rintro⟨s,m,_⟩;simp at m
 ·constructor
  ·intro h;cases h
  ·rintro⟨r,hr,_⟩;simp[fA]at hr
 ·have:=a j;rw[this];exact tg
 ·have:=a j;rw[this];simp
 ·have:=a j;rw[this];simp
theorem JO {tb:List bZ}{n room m:Nat}(h1:32<=n)(h2:n<=1024)(h3:n%16=0)(h6:tb.length<=40)(h7:∀c∈tb,c.ok):WI (qz tb n room m):=by
 obtain⟨x,d⟩:=Oo (room:=room) h1 h2 h3 h6 h7;have get:∀{k:Nat} {A:AR},(qz tb n room m).bX[k]?=some A->A=fA n room tb:=λ{k A} h=>by
  have h:(List.replicate m (fA n room tb))[k]?=some A:=h;rw[lX]at h;split at h<;>simp at h;exact h.symm
 have b:∀p,gf (KY n).st p=0:=λp=>by
  show(List.replicate n 0).getD p 0=0;rw[zO,lX];split<;>rfl
 refine⟨λk A h=>by rw[get h];exact x,λk A h=>?_,λk A h=>by rw[get h];rfl,λk A h p a=>by rw[get h];exact d p,λp a=>(a (b p)).elim,λp k l A B D G h1 h2=>?_,tg,λp a=>by simp[qz]at a,λk A h j y w=>?_,λk A h r g=>?_⟩
 ·rw[get h];exact⟨by simp[qz,KY,fA],λp a=>(a (d p)).elim,λp a=>by rw[d p]at a;omega,λp=>by show gf (KY n).st p<=2;rw[b];omega⟩
 ·rw[get D]at h1;exact(h1 (d p)).elim
 ·rw[get h]at w;obtain⟨c,z,u,E⟩:=w;have e:z=[]:=by
   have h2:=u.2;simp only[fA]at h2;rw[lX]at h2;split at h2<;>simp at h2;exact h2
  subst e;obtain⟨F,s,i,C,_⟩:=(Vq (x.cE _ _ _ u)).1 E;simp at C
 ·rw[get h]at g;simp[fA]at g
end Go.Ar
namespace Go.Ar
open Go.Vc (bW dB cS)
variable {H H':Hw}{held:List Pc}{s0:Sp}{t k j:Nat}{g:Th}{A:AR}{c:bZ}
theorem Sa {tb:List bZ}{cf:Cf}(h1:32<=cf.aF)(h2:cf.aF<=1024)(h3:cf.aF%16=0)(h4:1<=cf.gW)(h6:tb.length<=40)(h7:∀c∈tb,c.ok):HI (Vy tb cf) [] (KY cf.aF):=by
 have B:=JO (tb:=tb) (n:=cf.aF) (room:=cf.room) (m:=cf.gW) h1 h2 h3 h6 h7;have d:∀g∈(Vy tb cf).bQ,g=⟨List.replicate tb.length ig,[],none⟩:=λg i=>(xQ.1 i).2;have r:∀k,(List.replicate tb.length ig).getD k ig=ig:=λk=>by
  rw[zO,lX];split<;>rfl
 refine⟨B,jr.refl _,λk x=>?_,tg,λe u=>by simp[Vy]at u,λg i s a j=>?_,λg i=>?_,h7,?_,?_⟩
 ·have z:∀(n:Nat) (f:Th->Nat) (g:Th),f g=0->((List.replicate n g).map f).sum=0:=λn f g h=>by
   rw[uh,h]
   induction n with
   | zero=>rfl
   | succ n ih=>rw[wK,nB,ih]
  have y:gG ⟨List.replicate tb.length ig,[],none⟩ k x=0:=by
   unfold gG k6;split
   ·simp only[r];rfl
   ·rfl
  have:qh (Vy tb cf) k x=0:=by
   unfold qh;show lQ [] k x+((List.replicate cf.threads (⟨List.replicate tb.length ig,[],none⟩:Th)).map λg=>gG g k x).sum=0;rw[z _ _ _ y];rfl
  rw[this,Q1];rintro⟨p,j,_⟩;simp at j
 ·rw[d g i]at j;cases j
 ·rw[d g i];refine⟨by simp[Vy],λl w=>?_,λb A=>by simp at A,by simp,by unfold ij;rfl⟩;rw[(xQ.1 w).2];exact⟨fK.nil,by simp[ig]⟩
 ·show 1<=(List.replicate cf.gW (fA cf.aF cf.room tb)).length;simpa using h4
 ·show(List.replicate cf.aF 0).length=cf.aF;simp
def KL (H H':Hw):Prop:=∀e∈H.live,∀w:Nat,e.1<=((8*w:Nat):Int)->((8*w:Nat):Int)<e.1+e.2.2.1->H'.sp.wd w=H.sp.wd w
theorem HI.ye (h:HI H held s0):WI ⟨H.tb,s0,H.bX,held⟩:=h.wi
theorem HI.mapped (h:HI H held s0){p:Pc}(hp:p∈held){x:Nat}(h1:p.addr<=x)(h2:x<p.addr+p.size):gf H.sp.st (x/256)≠0:=by
 obtain⟨A,a,_⟩:=h.wi.hf p hp;have e1:=h.wi.qj hp a h1 h2;have:=(h.wi.ow _ A a).own (x/256) O;intro hz;exact this ((h.mI.z _).1 hz)
theorem HI.kl (h:HI H held s0)(k:KS H.sp H'.sp):KL H H':=λe b w g i=>by
 obtain⟨_,p,a,_,_,m,j,_⟩:=h.lv e b;have d:=h.mapped a (x:=8*w) O O;exact(k.k _ d).2 w O
theorem KL.refl (H:Hw):KL H H:=λ_ _ _ _ _=>rfl
theorem KL.trans {H1 H2 H3:Hw}(a:KL H1 H2)(b:KL H2 H3)(hl:∀e∈H1.live,e∈H2.live):KL H1 H3:=λe i w d g=>(b e (hl e i) w d g).trans (a e i w d g)
structure mn (H H':Hw):Prop where
 hi:∃held s0,HI H' held s0
 live:H'.live=H.live
 bQ:H'.bQ=H.bQ
 kp:Qr H' H
 kl:KL H H'
theorem mn.refl (h:HI H held s0):mn H H:=⟨⟨_,_,h⟩,rfl,rfl,Qr.refl _,KL.refl _⟩
theorem mn.trans {H1 H2 H3:Hw}(a:mn H1 H2)(b:mn H2 H3):mn H1 H3:=⟨b.hi,b.live.trans a.live,b.bQ.trans a.bQ,a.kp.trans b.kp,a.kl.trans b.kl λe d=>by rw[a.live];exact d⟩
theorem HI.n (h:HI H held s0)(hk:H.bX[k]?=some A):A.n=H.cf.aF:=by
 have:=(h.wi.ow k A hk).l;have a:=h.mI.l;have b:=h.sl;simp only at this;omega
theorem WI.wd {W:Wd}(h:WI W)(f:Nat->Int):WI {W with sp:={W.sp with wd:=f}}:=
 ⟨h.ga,λk A hk=>⟨(h.ow k A hk).l,(h.ow k A hk).own,(h.ow k A hk).cl,(h.ow k A hk).le⟩,h.tb,h.low,h.own,h.one,h.hk,h.hf,h.ht,h.hr⟩
theorem Lh {sp:Sp}{x:Int}(h:eH sp x=0):0<=x/\x%8=0/\gf sp.st (x.toNat/256)≠0:=by
 unfold eH at h;split at h
 ·cases h
 ·split at h
  ·cases h
  ·exact⟨O,O,by assumption⟩
theorem CO (sp:Sp)(x v:Int):(ZU sp x v).st.length=sp.st.length/\(∀p,gf (ZU sp x v).st p=0↔gf sp.st p=0)/\∀w,(ZU sp x v).wd w=if eH sp x=0/\w=x.toNat/8 then v else sp.wd w:=by
 unfold ZU;split
 ·rename_i h0;have a:=Lh h0;refine⟨by simp[mU],λp=>?_,λw=>?_⟩
  ·show gf (sp.st.set (x.toNat/8/32) 2) p=0↔_;have b:x.toNat/8/32=x.toNat/256:=by omega
   rw[b];unfold gf at a ⊢;rw[zO]at a ⊢;rw[zO,mA];split
   ·rename_i he;split
    ·rw[←he];simp only[pC];exact⟨λh=>O,λh=>(a.2.2 h).elim⟩
    ·rename_i hl;rw[zV O]at a;exact(a.2.2 rfl).elim
   ·exact Iff.rfl
  ·show(if w=x.toNat/8 then v else sp.wd w)=_
   by_cases hw:w=x.toNat/8
   ·rw[zC hw,zC ⟨h0,hw⟩]
   ·rw[zB hw,zB λh=>hw h.2]
 ·exact⟨rfl,λ_=>Iff.rfl,λw=>by rw[zB λh=>by have:=h.1;contradiction]⟩
theorem HI.write (h:HI H held s0)(x v:Int):HI {H with sp:=ZU H.sp x v} held {s0 with wd:=(ZU H.sp x v).wd}:=by
 obtain⟨a,b,_⟩:=CO H.sp x v;exact⟨h.wi.wd _,⟨a.trans h.mI.l,λp=>(b p).trans (h.mI.z p),rfl⟩,h.cn,h.lk,h.lv,h.gv,h.th,h.ok,h.a1,a.trans h.sl⟩
end Go.Ar
namespace Go.Ar
open Go Go.Vc Go.Proofs
variable {U u w w':Hp}{F B P Q:Rg}{L:dH}{H H':Hw}{t n:Nat}{g:Th}
end Go.Ar
namespace Go.Proofs
open Go.Vc
set_option maxRecDepth 100000
def WO.h:Hn:=.q .o2 (.q (.q (.cR (.seq [.op,.op,.op,.cU false 2 [.op,.op]])) .aJ) (.q .o1 (.q .o1 (.q (.k (.loop [(4,.one .s),(5,.I)] (.q (.q .o2 (.c .l .l)) (.k (.q .o7 .o6))))) (.q .o6 (.q .o1 (.q (.q .o1 (.k (.loop [(6,.one .s),(7,.I)] (.q (.q .o4 (.c .l .l)) (.q (.k (.q (.cR (.hO true [] [(70,.one .b)] (.tk [0,1,2,3,4,5] (.split 43 (.tk [6,7,8,9,10,11,12,13,14,15,16,17,18,19,20,21,22,23,24,25,26,27,28,29,30,31,32] (.done)) (.tk [6,7,8,9,10,11,12,13,14,15,16,17,18,19] (.split 57 (.tk [20,21,22,23,24,25,26,27,28,29,30,31,32] (.done)) (.tk [20,21,22,23,25,26,27,28,29] (.all [(24,.all [(30,.take 31 (.take 32 (.done)))])])))))))) (.c .o8 .l))) .o3))))) (.q .o3 .l))))))))
def WO.v (a:Int)(b:Hp)(c:Sl->Int->Hp->Prop):Prop:=bV (λd e=>If d (c ⟨none,0,0⟩ 1 e) (Yp [.s,bN] (λf=>f ⟨none,0,0⟩ 8 e) λg (h:Sl) (i:Int) j=>If (i<512) (Xc.c i a j λk l m n=>aV #[.I k,.I l,.I m] 137 n λo p=>App h 3 24 137 [.I 0,.I 0,.I 0] ⟨some o,1,1⟩ p λq r=>XM.c i a r λs t=>bL (i+s) λu=>g q u t) (Xc.c 512 a j λv w x y=>aV #[.I v,.I w,.I x] 137 y λz aa=>App h 3 24 137 [.I 0,.I 0,.I 0] ⟨some z,1,1⟩ aa λab ac=>Yp [.s,bN] (λad=>ad ⟨none,0,0⟩ 0 ac) λae (af:Sl) (ag:Int) ah=>If (ag<((ab.len:Nat):Int)) (Jn [.b] (λ(ai:Bool) aj=>If ai (Ix ab.a ab.len ag 3 λak=>aQ ak 0 aj λal=>aQ ak 1 aj λam=>aQ ak 2 aj λan=>aV #[.I al,.I am,.I an] 137 aj λao ap=>App af 3 24 137 [.I 0,.I 0,.I 0] ⟨some ao,1,1⟩ ap λaq ar=>bL (ag+1) λau=>ae aq au ar) (bL (ag+1) λav=>ae af av aj)) λaw=>eO ah λax=>bL (((ab.len:Nat):Int)-1) λay=>If (ag==ay) (aw true ah) (Ix ab.a ab.len ag 3 λaz=>aS ax az 1 λa0=>bL (ag+1) λa1=>Ix ab.a ab.len a1 3 λa2=>aS ax a2 1 λa3=>If (a0 != a3) (aw true ah) (Ix ab.a ab.len ag 3 λa4=>aS ax a4 0 λa5=>aS ax a4 1 λa6=>aS ax a4 2 λa7=>bL (ag+1) λa8=>Ix ab.a ab.len a8 3 λa9=>aS ax a9 0 λba=>aS ax a9 1 λbb=>aS ax a9 2 λbc=>WL.c a5 a6 a7 ah λbd be=>
 And (ax be) <| WL.c ba bb bc be λbf bg=>And (ax bg) <| aw (bd != bf) bg))) (c af 0 ah)))) λbh=>If (a<2) (bh true b) (bh (decide (a>16)) b)
theorem WO.o {a b c}(d:WO.v a b c):WO.c a b c:=Wa Tryz.func100 (x:=WO.h) (R0 d)
def Xc.h:Hn:=.q .o1 (.q .o8 (.q (.q .o1 (.k (.loop [(6,.I)] (.q (.q .o2 (.c .l .l)) (.q (.k (.q (.cR (.seq [.op,.op,.op,.op,.op,.cU true 9 (RI.ops 9)])) (.c .o3 .l))) .o3))))) .aL))
def Xc.v (a b:Int)(c:Hp)(d:Int->Int->Int->Hp->Prop):Prop:=aV #[.I 0,.I 0,.I 0] 137 c λe f=>Nz a<|bL ((512:Int).tdiv a) λg=>aV #[.I 0,.I 0,.I 0] 137 f λh i=>aR h 0 (.I a) i λj=>aR h 1 (.I 4) j λk=>aR h 2 (.I (if 32<(if 2>g then 2 else g)then 32 else(if 2>g then 2 else g))) k λl=>Yp [bN] (λm=>m 4 l) λn (o:Int) p=>If (o≥1) (bL (o*256) λq=>bV (λr s=>If r (aR h 1 (.I o) s λt=>bL (o-1) λu=>n u t) (bL (o-1) λv=>n v s)) λw=>If (q≥a) (bL (o*256) λx=>Nz a <| bL (b*(x.tmod a)) λy=>bL (o*256) λz=>w (decide (y<=z)) p) (w false p)) (aQ h 0 p λaa=>aQ h 1 p λab=>aQ h 2 p λac=>aR e 0 (.I aa) p λad=>aR e 1 (.I ab) ad λae=>aR e 2 (.I ac) ae λaf=>aQ e 0 af λag=>aQ e 1 af λah=>aQ e 2 af λai=>d ag ah ai af)
theorem Xc.o {a b c d}(e:Xc.v a b c d):Xc.c a b c d:=Wa Tryz.func137 (x:=Xc.h) (R0 e)
def XM.h:Hn:=.q .o1 (.q .o1 (.q (.k (.loop [(5,.I)] (.q (.q .o6 (.c .l .l)) (.k .o3)))) .aL))
def XM.v (a b:Int)(c:Hp)(d:aN):Prop:=Yp [bN] (λe=>e 8 c) λf (g:Int) h=>bL (2*g) λi=>Nz b<|bL (a.tdiv b) λj=>If (i<=j) (bL (2*g) λk=>f k h) (d g h)
theorem XM.o {a b c d}(e:XM.v a b c d):XM.c a b c d:=Wa Tryz.func138 (x:=XM.h) (R0 e)
def WL.h:Hn:=.q .o2 (.q .o1 (.q (.k (.loop [(3,.I)] (.q (.q .o9 (.c .l .l)) (.k .o3)))) .aL))
def WL.v (a b c:Int)(d:Hp)(e:aN):Prop:=aV #[.I a,.I b,.I c] 137 d λf g=>Yp [bN] (λh=>h 0 g) λi (j:Int) k=>bL (j+1) λl=>aQ f 0 k λm=>bL (l*m) λn=>aQ f 1 k λo=>bL (o*256) λp=>If (n<=p) (bL (j+1) λq=>i q k) (e j k)
theorem WL.o {a b c d e}(f:WL.v a b c d e):WL.c a b c d e:=Wa Tryz.func139 (x:=WL.h) (R0 f)
end Go.Proofs
namespace Go.Ar
open Go Go.Vc Go.Proofs
variable {U w:Hp}
abbrev T3:=Int×Int×Int
def v3 (x:T3):List Value:=[.int .i64 x.1,.int .i64 x.2.1,.int .i64 x.2.2]
def jZ (l:List T3):List Value:=l.flatMap v3
theorem V9 (l:List T3):(jZ l).length=l.length*3:=by
 induction l with
 | nil=>rfl
 | cons x l ih=>simp only[jZ,p8,zP,v3,zY,lH]at *;omega
theorem A8 (l:List T3)(x:T3):jZ (l++[x])=jZ l++v3 x:=by simp[jZ]
theorem U8:∀{l:List T3} {i:Nat} {x:T3},l[i]?=some x->∀{d:Nat},d<3->(jZ l)[i*3+d]?=(v3 x)[d]?
 | [],_,_,h,_,_=>by simp at h
 | y::l,0,x,h,d,hd=>by
  simp at h;subst h;have e:jZ (y::l)=v3 y++jZ l:=rfl;rw[e,zh (by simp[v3];omega)];congr 1;omega
 | y::l,i+1,x,h,d,hd=>by
  have e:jZ (y::l)=v3 y++jZ l:=rfl;have a:(v3 y).length=3:=rfl;rw[e,zp O,a,show(i+1)*3+d-3=i*3+d by omega];exact U8 (by simpa using h) hd
theorem FP {Q:Rg}{s:Sl}{l:List T3}(h:Go.Vc.Own Q U s 3 (jZ l)):ic U s l:=by
 have m:=h.1;rw[V9]at m;refine⟨O,λi x y z d=>?_⟩;obtain⟨b,e,g⟩:=h.cell (j:=i*3+0) (v:=.int .i64 x) ((U8 d O).trans rfl);obtain⟨u,a,p⟩:=h.cell (j:=i*3+1) (v:=.int .i64 y) ((U8 d O).trans rfl);rw[e]at a;cases a;obtain⟨u,a,r⟩:=h.cell (j:=i*3+2) (v:=.int .i64 z) ((U8 d O).trans rfl);rw[e]at a;cases a;refine⟨b,0,e,Ka g,?_,?_,?_⟩
 ·rw[show 0+i*3=i*3+0 by omega];exact g
 ·rw[show 0+i*3+1=i*3+1 by omega];exact p
 ·rw[show 0+i*3+2=i*3+2 by omega];exact r
def G2 (s w:Int)(n:Nat):Int:=([4,3,2,1].take n).foldl (λ(r p:Int)=>if s<=p*256/\w*((p*256)%s)<=p*256 then p else r) 4
def xU (s:Int):Int:=min 32 (max 2 (512/s))
def kJ (s w:Int):T3:=(s,G2 s w 4,xU s)
def wy:Nat->Int->Int->Int
 | 0,d,_=>d
 | n+1,d,q=>if 2*d<=q then wy n (2*d) q else d
def wq (s w:Int):Int:=wy 8 8 (s/w)
def l0 (x:T3):Int:=x.2.1*256/x.1
theorem Mz (s w:Int)(n:Nat):1<=G2 s w n/\G2 s w n<=4:=by
 have key:∀(l:List Int) (r:Int),(∀p∈l,1<=p/\p<=4)->1<=r/\r<=4->1<=l.foldl (λ(r p:Int)=>if s<=p*256/\w*((p*256)%s)<=p*256 then p else r) r/\l.foldl (λ(r p:Int)=>if s<=p*256/\w*((p*256)%s)<=p*256 then p else r) r<=4:=by
  intro l
  induction l with
  | nil=>intro r _ h;exact h
  | cons p l ih=>
   intro r hl hr;rw[qs];refine ih _ (λq a=>hl q (np _ a)) ?_;split
   ·exact hl p pG
   ·exact hr
 refine key _ _ (λp b=>?_) O;have:=vS b;simp at this;omega
theorem EY (s w:Int)(h1:8<=s)(h2:s<=512)(hw1:2<=w)(hw2:w<=16){R:Int->Int->Int->Hp->Prop}(hR:∀σ',bK U σ'->R (kJ s w).1 (kJ s w).2.1 (kJ s w).2.2 σ'):Xc.c s w U R:=by
 refine Xc.o ?_;unfold Xc.v;have X:1<=512/s/\512/s<=64:=⟨by rw[Int.le_ediv_iff_mul_le O];omega,Int.ediv_le_of_le_mul O O⟩;refine nw (cs:=[.int .i64 0,.int .i64 0,.int .i64 0]) λv hz e S=>nz O (ar (by rw[Xs O];omega) (by rw[Xs O];omega) ?_);rw[Xs O];refine nw (cs:=[.int .i64 0,.int .i64 0,.int .i64 0]) λv1 aa e1 E=>E.s1 aA λv2 o2 D=>D.s1 aA λab o3 m=>m.s1 aA λv4 o4 F=>?_;have d:U.size≠v.size:=by omega
 have y:=Ws o4 (Ws o3 (Ws o2 (e1.bT S id) d) d) d;have N:bK U v4:=((((e.trans e1).only o2 (.inr O)).only o3 (.inr O)).only o4 (.inr O));have j:(if 32<(if 2>512/s then 2 else 512/s)then 32 else(if 2>512/s then 2 else 512/s))=xU s:=by unfold xU;omega
 rw[j]at F;refine ZS (a:=bN) (λ(z:Int) u=>∃n:Nat,n<=4/\z=4-(n:Int)/\bK U u/\bY u U.size [.int .i64 0,.int .i64 0,.int .i64 0]/\bY u v.size [.int .i64 s,.int .i64 (G2 s w n),.int .i64 (xU s)]) (λz _=>z.toNat) ⟨0,O,rfl,N,y,F⟩ ?_;rintro(z:Int) u ⟨n,hn,rfl,eu,hu,bu⟩;refine cQ (λP=>?_) λL=>?_
 ·have K:n<4:=by omega
  have b:G2 s w (n+1)=if s<=(4-(n:Int))*256/\w*(((4-(n:Int))*256)%s)<=(4-(n:Int))*256 then 4-(n:Int)else G2 s w n:=by
   have Y:([4,3,2,1]:List Int)[n]?=some (4-(n:Int)):=by
    rcases(show n=0\/n=1\/n=2\/n=3 by omega)with rfl|rfl|rfl|rfl<;>rfl
   unfold G2;rw[lI,Y,uO];rfl
  refine ar O O ?_;refine Q8 (λr H=>H=u/\r=decide (s<=(4-(n:Int))*256/\w*(((4-(n:Int))*256)%s)<=(4-(n:Int))*256)) (λr H ⟨A,x⟩=>?_) λJ G=>?_
  ·subst A;by_cases hc:s<=(4-(n:Int))*256/\w*(((4-(n:Int))*256)%s)<=(4-(n:Int))*256
   ·rw[zJ hc]at x;rw[zC hc]at b;refine cD x (bu.s1 aA λV o1 C=>ar O O ⟨⟨n+1,O,O,eu.only o1 (.inr O),Ws o1 hu d,by rw[b];exact C⟩,O⟩)
   ·rw[zM hc]at x;rw[zB hc]at b;exact cB x (ar O O ⟨⟨n+1,O,O,eu,hu,by rw[b];exact bu⟩,O⟩)
  ·have g:=Int.emod_nonneg ((4-(n:Int))*256) (show s≠0 by omega);have Q:=Int.emod_lt_of_pos ((4-(n:Int))*256) (show 0<s by omega);have W:w*(((4-(n:Int))*256)%s)<=16*512:=Int.mul_le_mul hw2 O g O;have M:0<=w*(((4-(n:Int))*256)%s):=Int.mul_nonneg O g;refine cQ (λh1=>ar O O (nz O ?_)) λh1=>G _ _ ⟨rfl,(zM λp=>h1 p.1).symm⟩;rw[Qm O];refine ar O O (ar O O (G _ _ ⟨rfl,?_⟩));rw[decide_eq_decide];exact⟨λp=>⟨h1,p⟩,λp=>p.2⟩
 ·have B:n=4:=by omega
  subst B;refine bu.rI rfl (bu.rI rfl (bu.rI rfl (hu.s1 aA λV o1 C=>C.s1 aA λu2 o2 D=>D.s1 aA λZ o3 m=>m.rI rfl (m.rI rfl (m.rI rfl (hR Z ?_))))));exact((eu.only o1 (.inr O)).only o2 (.inr O)).only o3 (.inr O)
theorem RE (s w:Int)(h1:8<=s)(h2:s<=512)(hw1:2<=w){R:aN}(hR:8<=wq s w->wq s w<=256->R (wq s w) U):XM.c s w U R:=by
 refine XM.o ?_;unfold XM.v;have g:0<=s/w/\s/w<=256:=⟨Int.ediv_nonneg O O,by
  have:s/w<=s/2:=by
   apply Int.le_ediv_of_mul_le O;have:=Int.ediv_mul_le s (show w≠0 by omega);have j:s/w*2<=s/w*w:=Int.mul_le_mul_of_nonneg_left hw1 (Int.ediv_nonneg O O);omega
  omega⟩
 refine ZS (a:=bN) (λ(d:Int) u=>u=U/\∃n:Nat,wy n d (s/w)=wq s w/\8<=d/\d<=256/\512<=d*2^n) (λd _=>1000-d.toNat) ⟨rfl,8,rfl,O,O,by decide⟩ ?_;rintro(d:Int) u ⟨rfl,n,hst,hd1,hd2,hdn⟩;refine ar O O (nz O (ar (by rw[Xs O];omega) (by rw[Xs O];omega) ?_));rw[Xs O];cases n with
 | zero=>simp at hdn;omega
 | succ n=>
  refine cQ (λb=>ar O O ⟨⟨rfl,n,?_,O,O,?_⟩,O⟩) λe=>?_
  ·rw[wy,zC b]at hst;exact hst
  ·rw[Int.pow_succ]at hdn;have:2*d*2^n=d*(2^n*2):=by rw[Int.mul_comm 2 d,Int.mul_assoc,Int.mul_comm 2 (2^n)]
   omega
  ·rw[wy,zB e]at hst;rw[←hst]at hR;exact hR hd1 hd2
theorem C2 (x:T3)(h1:8<=x.1)(h2:x.1<=512)(h3:1<=x.2.1)(h4:x.2.1<=4){R:aN}(hR:∀σ',bK U σ'->R (l0 x) σ'):WL.c x.1 x.2.1 x.2.2 U R:=by
 refine WL.o ?_;unfold WL.v;refine nw (cs:=[.int .i64 x.1,.int .i64 x.2.1,.int .i64 x.2.2]) λv p e m=>?_;refine ZS (a:=bN) (λ(n:Int) u=>bK U u/\bY u U.size [.int .i64 x.1,.int .i64 x.2.1,.int .i64 x.2.2]/\0<=n/\n<=128/\n*x.1<=x.2.1*256) (λn _=>1000-n.toNat) ⟨e,m,O,O,O⟩ ?_;rintro(n:Int) u ⟨eu,bu,hn0,hn1,hn⟩;have r:(n+1)*x.1<=129*512:=Int.mul_le_mul O h2 O O;have g:0<=(n+1)*x.1:=Int.mul_nonneg O O;refine ar O O (bu.rI rfl (ar O O (bu.rI rfl (ar O O ?_))));refine cQ (λb=>ar O O ⟨⟨eu,bu,O,?_,b⟩,O⟩) λj=>?_
 ·have:(n+1)*8<=(n+1)*x.1:=Int.mul_le_mul_of_nonneg_left h1 O;omega
 ·have:l0 x=n:=by
   unfold l0;have w:n<=x.2.1*256/x.1:=(Int.le_ediv_iff_mul_le O).2 hn;have s:x.2.1*256/x.1<n+1:=(Int.ediv_lt_iff_lt_mul O).2 O;omega
  have d:=hR u eu;rw[this]at d;exact d
end Go.Ar