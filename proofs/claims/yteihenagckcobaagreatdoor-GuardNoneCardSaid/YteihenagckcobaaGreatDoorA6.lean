/- Texts joined. -/
import Derived.Test.YteihenagckcobaaGreatDoorA5
set_option linter.unusedVariables false
set_option linter.unusedSimpArgs false
namespace Go.Ar
variable {c:bZ}{ss:List cF}
structure dD (c:bZ) (ss:List cF):Prop where
 ok:c.ok
 tk:∀s∈ss,s.tk.length=c.n
 ra:ss.Pairwise λa b=>a.st+c.aF<=b.st
def Tk (c:bZ)(ss:List cF)(x:Int):Prop:=dT c ss x=some true
def sy (c:bZ)(ss:List cF)(p:Nat):Prop:=∃s∈ss,s.st<=p/\p<s.st+c.aF
theorem dD.pos (h:dD c ss):0<c.size:=by have:=h.ok;unfold bZ.ok at this;omega
theorem dD.pg (h:dD c ss):1<=c.aF:=by have:=h.ok;unfold bZ.ok at this;omega
theorem dD.pf (h:dD c ss):ss.Pairwise λa b=>a.st<b.st:=h.ra.imp λ{a b} d=>by have:=h.pg;omega
theorem dD.qI (h:dD c ss){i j:Nat}{s t:cF}(hi:ss[i]?=some s)(hj:ss[j]?=some t)(hij:i<j):s.st+c.aF<=t.st:=by
 obtain⟨b,rfl⟩:=cX.1 hi;obtain⟨a,rfl⟩:=cX.1 hj;exact lu.1 h.ra i j b a hij
theorem dD.uz (h:dD c ss){i j:Nat}{s t:cF}{p:Nat}(hi:ss[i]?=some s)(hj:ss[j]?=some t)(h1:s.st<=p)(h2:p<s.st+c.aF)(h3:t.st<=p)(h4:p<t.st+c.aF):i=j:=by
 rcases oF i j with hl|hl|hl
 ·have:=h.qI hi hj hl;omega
 ·exact hl
 ·have:=h.qI hj hi hl;omega
theorem Ck (hp:0<c.size){s:cF}{i:Nat}(hi:i<c.n):s.st*256<=at_ c s i/\at_ c s i+c.size<=(s.st+c.aF)*256:=by
 have b:=bZ.uq c;have a:(i+1)*c.size<=c.n*c.size:=lq _ hi;unfold at_;rw[zk]at a;omega
theorem US (hp:0<c.size){s:cF}{i x:Nat}(hi:i<c.n)(h1:at_ c s i<=x)(h2:x<at_ c s i+c.size):s.st<=x/256/\x/256<s.st+c.aF:=by
 have:=Ck hp (s:=s) hi;omega
theorem VT (h:dD c ss){k l:Nat}{s t:cF}{i j x:Nat}(hk:ss[k]?=some s)(hl:ss[l]?=some t)(hi:i<c.n)(hj:j<c.n)(h1:at_ c s i<=x)(h2:x<at_ c s i+c.size)(h3:at_ c t j<=x)(h4:x<at_ c t j+c.size):k=l/\s=t/\i=j:=by
 have a:=US h.pos hi h1 h2;have b:=US h.pos hj h3 h4;have e:=h.uz hk hl a.1 a.2 b.1 b.2;subst e;rw[hk]at hl;cases hl;refine⟨rfl,rfl,?_⟩;unfold at_ at *;have d:=h.pos;rcases oF i j with hl|hl|hl
 ·have:(i+1)*c.size<=j*c.size:=lq _ hl;rw[zk]at this;omega
 ·exact hl
 ·have:(j+1)*c.size<=i*c.size:=lq _ hl;rw[zk]at this;omega
theorem As (h:dD c ss){s:cF}(hs:s∈ss){x:Int}{i:Nat}(hi:idx c s x=some i):i<c.n/\((s.st*256:Nat):Int)<=x/\x<(((s.st+c.aF)*256:Nat):Int)/\((at_ c s i:Nat):Int)<=x/\x<((at_ c s i+c.size:Nat):Int):=by
 obtain⟨d,b,a⟩:=(Vr h.pos).1 hi;rw[h.tk s hs]at a;have:=Ck h.pos (s:=s) a;have e:at_ c s (i+1)=at_ c s i+c.size:=by unfold at_;rw[zk];omega
 rw[e]at b;omega
theorem DI (h:dD c ss){k:Nat}{s:cF}{x:Int}{i:Nat}(hs:ss[k]?=some s)(hi:idx c s x=some i):kb c ss x=some k:=by
 obtain⟨m,g⟩:=cX.1 hs;refine mQ.2 ⟨m,by rw[g,hi];rfl,λj r p=>?_⟩;have d:j<ss.length:=by omega
 obtain⟨u,e⟩:=om.1 p;have a:=As h (zG hs) hi;have b:=As h (j3 d) e;have:=h.qI (cW d) hs r;omega
theorem Bj (h:dD c ss){x:Int}{b:Bool}:dT c ss x=some b↔∃(k:Nat) (s:cF) (i:Nat),ss[k]?=some s/\i<c.n/\x=((at_ c s i:Nat):Int)/\s.is i=b:=by
 constructor
 ·intro hx;obtain⟨k,s,i,_,a,e,d⟩:=HZ hx;obtain⟨m,j⟩:=(V6 h.pos).1 e;rw[h.tk s (zG a)]at j;exact⟨k,s,i,a,j,m,d⟩
 ·rintro⟨k,s,i,a,hi,rfl,d⟩;have p:=h.tk s (zG a);have e:obj c s ((at_ c s i:Nat):Int)=some i:=(V6 h.pos).2 ⟨rfl,O⟩;have g:idx c s ((at_ c s i:Nat):Int)=some i:=(Vr h.pos).2 ⟨Int.le_refl _,by have:=h.pos;unfold at_;rw[zk];omega,O⟩;rw[Vg (DI h a g) a,e,←d];rfl
theorem VC (h:dD c ss){x:Int}:Tk c ss x↔∃(k:Nat) (s:cF) (i:Nat),ss[k]?=some s/\i<c.n/\x=((at_ c s i:Nat):Int)/\s.is i=true:=Bj h
theorem Dz (h:dD c ss){x:Int}{a:Nat}:pB c ss x=some a↔∃(k:Nat) (s:cF) (i:Nat),ss[k]?=some s/\i<c.n/\a=at_ c s i/\((at_ c s i:Nat):Int)<=x/\x<((at_ c s i+c.size:Nat):Int):=by
 constructor
 ·intro hf;cases ho:kb c ss x with
  | none=>rw[B7 ho]at hf;cases hf
  | some k=>
   have j:=(mQ.1 ho).1;have b:ss[k]?=some ss[k]:=cW j;rw[U5 ho b]at hf;obtain⟨i,g,rfl⟩:=nT.1 hf;have:=As h (zG b) g;exact⟨k,_,i,b,this.1,rfl,this.2.2.2.1,this.2.2.2.2⟩
 ·rintro⟨k,s,i,b,g,rfl,h1,h2⟩;have m:=h.tk s (zG b);have e:at_ c s (i+1)=at_ c s i+c.size:=by unfold at_;rw[zk];omega
  have d:idx c s x=some i:=(Vr h.pos).2 ⟨h1,by rw[e];exact h2,O⟩;rw[U5 (DI h b d) b,d];rfl
theorem dD.put (h:dD c ss){k i:Nat}{s:cF}(hs:ss[k]?=some s)(v:Bool):dD c (ss.set k (s.put i v)):=by
 have r:=(cX.1 hs).1;refine⟨h.ok,λt p=>?_,?_⟩
 ·rcases vT p with p|rfl
  ·exact h.tk t p
  ·rw[show(s.put i v).tk.length=s.tk.length by simp[cF.put]];exact h.tk s (zG hs)
 ·rw[lu];intro a b ha hb hab;have g:a<ss.length:=by simpa using ha
  have m:b<ss.length:=by simpa using hb
  have d:∀j (hj:j<(ss.set k (s.put i v)).length) (hj':j<ss.length),(ss.set k (s.put i v))[j].st=ss[j].st:=by
   intro j hj hj';rw[List.getElem_set];split
   ·rename_i e;subst e;have:ss[k]=s:=(cX.1 hs).2;rw[this];rfl
   ·rfl
  rw[d a ha g,d b hb m];exact lu.1 h.ra a b g m hab
theorem BP {k i:Nat}{s:cF}(hs:ss[k]?=some s)(v:Bool):(ss.set k (s.put i v)).map (·.st)=ss.map (·.st):=by
 apply zm;intro j;simp only[zd];by_cases hjk:j=k
 ·subst hjk;rw[zJ (cX.1 hs).1,hs];rfl
 ·rw[ze (Ne.symm hjk)]
theorem yC {s:cF}{i j:Nat}{v:Bool}(hi:i<s.tk.length):(s.put i v).is j=if j=i then v else s.is j:=by
 unfold cF.is cF.put;simp only[zN];by_cases hj:j=i
 ·subst hj;rw[zJ hi,zC rfl];rfl
 ·rw[ze (Ne.symm hj),zB hj]
theorem BQ (h:dD c ss){k i:Nat}{s:cF}(hs:ss[k]?=some s)(hi:i<c.n)(v:Bool){y:Int}:Tk c (ss.set k (s.put i v)) y↔(y=((at_ c s i:Nat):Int)/\v=true)\/(y≠((at_ c s i:Nat):Int)/\Tk c ss y):=by
 have b:=(cX.1 hs).1;have g:=h.tk s (zG hs);have m:=h.pos;rw[VC (h.put hs v),VC h];constructor
 ·rintro⟨l,t,j,ht,hj,rfl,hb⟩;by_cases hlk:l=k
  ·subst hlk;rw[zJ b]at ht;cases ht;rw[yC O]at hb;by_cases a:j=i
   ·subst a;rw[zC rfl]at hb;exact .inl ⟨rfl,hb⟩
   ·rw[zB a]at hb;refine .inr ⟨λe=>a ?_,l,s,j,hs,hj,rfl,hb⟩;have d:at_ c s j=at_ c s i:=by have:=Int.ofNat.inj e;exact this
    exact(VT h hs hs hj hi (zD _) O O O).2.2
  ·rw[ze (Ne.symm hlk)]at ht;refine .inr ⟨λe=>hlk ?_,l,t,j,ht,hj,rfl,hb⟩;have d:at_ c t j=at_ c s i:=Int.ofNat.inj e;exact(VT h ht hs hj hi (zD _) O O O).1
 ·rintro(⟨rfl,rfl⟩|⟨hne,l,t,j,ht,hj,rfl,hb⟩)
  ·exact⟨k,s.put i true,i,zJ b,hi,rfl,by rw[yC O,zC rfl]⟩
  ·by_cases hlk:l=k
   ·subst hlk;rw[hs]at ht;cases ht;have a:j≠i:=λe=>hne (by rw[e]);exact⟨l,s.put i v,j,zJ b,hj,rfl,by rw[yC O,zB a];exact hb⟩
   ·exact⟨l,t,j,(ze (Ne.symm hlk)).trans ht,hj,rfl,hb⟩
theorem AQ {p:Nat}:sy c ss p↔∃x∈ss.map (·.st),x<=p/\p<x+c.aF:=by
 constructor
 ·rintro⟨s,a,h⟩;exact⟨_,zF.2 ⟨s,a,rfl⟩,h⟩
 ·rintro⟨x,hx,h⟩;obtain⟨s,a,rfl⟩:=zF.1 hx;exact⟨s,a,h⟩
theorem EF {ss':List cF}(e:ss'.map (·.st)=ss.map (·.st)){p:Nat}:sy c ss' p↔sy c ss p:=by rw[AQ,AQ,e]
theorem FE (h:dD c ss){x:Nat}{ss':List cF}(ho:iG c ss=some (x,ss')):dD c ss'/\ss'.map (·.st)=ss.map (·.st)/\¬Tk c ss (x:Int)/\∀y,Tk c ss' y↔y=(x:Int)\/Tk c ss y:=by
 unfold iG at ho;split at ho
 ·rename_i k hk;obtain⟨_,s,g,p⟩:=Qw hk;rw[g]at ho;simp only at ho;split at ho
  ·rename_i i hi;cases ho;obtain⟨r,w,u,m⟩:=HG p;rw[hi]at w;cases w;have j:i<c.n:=by rw[←h.tk s (zG g)];exact u
   have d:¬Tk c ss ((at_ c s i:Nat):Int):=λa=>by
    have z:=(Bj h (x:=((at_ c s i:Nat):Int)) (b:=false)).2 ⟨k,s,i,g,j,rfl,m⟩;unfold Tk at a;rw[z]at a;cases a
   refine⟨h.put g true,BP g true,d,λy=>?_⟩;rw[BQ h g j];constructor
   ·rintro(⟨e,_⟩|⟨_,a⟩)
    ·exact .inl e
    ·exact .inr a
   ·rintro(e|a)
    ·exact .inl ⟨e,rfl⟩
    ·exact .inr ⟨λe=>d (e▸a),a⟩
  ·cases ho
 ·cases ho
theorem Hh:∀(m:Nat) {ss:List cF},dD c ss->dD c (QJ c m ss).2/\(QJ c m ss).2.map (·.st)=ss.map (·.st)/\(QJ c m ss).1.length<=m/\(QJ c m ss).1.Nodup/\(∀x∈(QJ c m ss).1,¬Tk c ss (x:Int))/\∀y,Tk c (QJ c m ss).2 y↔(∃x∈(QJ c m ss).1,y=((x:Nat):Int))\/Tk c ss y
 | 0,ss,h=>⟨h,rfl,zD _,qG,by simp[QJ],by simp[QJ]⟩
 | m+1,ss,h=>by
  cases ho:iG c ss with
  | none=>
   have e:QJ c (m+1) ss=([],ss):=by simp[QJ,ho]
   rw[e];exact⟨h,rfl,by simp,qG,by simp,by simp⟩
  | some r=>
   obtain⟨x,w⟩:=r;rw[UU ho];obtain⟨u,j,s,a⟩:=FE h ho;obtain⟨z,i,B,g,b,A⟩:=Hh m u;refine⟨z,i.trans j,by simp;omega,zt.2 ⟨λp=>b x p ((a _).2 (.inl rfl)),g⟩,?_,λy=>?_⟩
   ·intro y hy;rcases zX.1 hy with rfl|hy
    ·exact s
    ·exact λd=>b y hy ((a _).2 (.inr d))
   ·rw[A,a];simp only[zX,exists_eq_or_imp];constructor
    ·rintro(h|h|h)
     ·exact .inl (.inr h)
     ·exact .inl (.inl h)
     ·exact .inr h
    ·rintro((h|h)|h)
     ·exact .inr (.inl h)
     ·exact .inl h
     ·exact .inr (.inr h)
theorem C6:∀(xs:List Int) {ss:List cF},dD c ss->jQ c ss xs->dD c (xs.foldl (eW c) ss)/\(xs.foldl (eW c) ss).map (·.st)=ss.map (·.st)/\∀y,Tk c (xs.foldl (eW c) ss) y↔Tk c ss y/\y∉xs
 | [],ss,h,_=>⟨h,rfl,by simp⟩
 | x::xs,ss,h,hA=>by
  have hx:=hA.1 x aA;obtain⟨k,s,i,m,b,j,_⟩:=HZ hx;obtain⟨d,a⟩:=(V6 h.pos).1 j;rw[h.tk s (zG b)]at a;have e:=vu m b j;have p:=h.put b false (i:=i);have g:=hA.next h.pos;obtain⟨w,u,r⟩:=C6 xs (ss:=eW c ss x) (by rw[e];exact p) g;rw[pO];refine⟨w,u.trans (by rw[e];exact BP b false),λy=>?_⟩;rw[r,e,BQ h b a,←d];simp only[za,and_false,false_or,zX,not_or];constructor
  ·rintro⟨⟨d,a⟩,h3⟩;exact⟨a,d,h3⟩
  ·rintro⟨a,d,h3⟩;exact⟨⟨d,a⟩,h3⟩
theorem Ek {s:cF}(h0:s.many=0)(i:Nat):s.is i=false:=by
 unfold cF.many at h0;rw[wF]at h0;unfold cF.is;rw[zN];cases hi:s.tk[i]? with
 | none=>rfl
 | some b=>
  cases b
  ·rfl
  ·exact absurd (zG hi) h0
theorem dD.cK (h:dD c ss):dD c (Go.Ar.cK ss):=⟨h.ok,λs a=>h.tk s (zI.1 a).1,h.ra.filter _⟩
theorem CE (h:dD c ss){y:Int}:Tk c (cK ss) y↔Tk c ss y:=by
 rw[VC h.cK,VC h];constructor
 ·rintro⟨k,s,i,hs,hi,rfl,hb⟩;obtain⟨l,a⟩:=zO (zI.1 (zG hs)).1;exact⟨l,s,i,a,hi,rfl,hb⟩
 ·rintro⟨k,s,i,hs,hi,rfl,hb⟩;have:s∈cK ss:=zI.2 ⟨zG hs,by
   have:s.many≠0:=λb=>by rw[Ek b i]at hb;cases hb
   simpa using this⟩
  obtain⟨l,a⟩:=zO this;exact⟨l,s,i,a,hi,rfl,hb⟩
theorem GY {x:Nat}:x∈Z9 ss↔∃s∈ss,s.many=0/\s.st=x:=by
 unfold Z9;simp only[zF,zI,zV,and_assoc]
theorem Ee (h:dD c ss){p:Nat}:sy c (cK ss) p↔sy c ss p/\¬∃x∈Z9 ss,x<=p/\p<x+c.aF:=by
 constructor
 ·rintro⟨s,hs,h1,h2⟩;have a:=zI.1 hs;refine⟨⟨s,a.1,h1,h2⟩,?_⟩;rintro⟨x,hx,h3,h4⟩;obtain⟨t,m,b,rfl⟩:=GY.1 hx;obtain⟨i,g⟩:=zO a.1;obtain⟨j,d⟩:=zO m;have e:=h.uz g d h1 h2 h3 h4;subst e;rw[g]at d;cases d;simp[b]at a
 ·rintro⟨⟨s,hs,h1,h2⟩,hn⟩;refine⟨s,zI.2 ⟨hs,?_⟩,h1,h2⟩;have:s.many≠0:=λb=>hn ⟨s.st,GY.2 ⟨s,hs,b,rfl⟩,h1,h2⟩;simpa using this
theorem EA (h:dD c ss):(Z9 ss).Pairwise λa b=>a+c.aF<=b:=by
 unfold Z9;rw[sF];exact h.ra.filter _
theorem KQ {st:Nat}{t:cF}:t∈gU c ss st↔t=⟨st,List.replicate c.n false⟩\/t∈ss:=by
 unfold gU;rw[zL,zX];have:t∈ss↔t∈ss.takeWhile (λs=>decide (s.st<st))\/t∈ss.dropWhile (λs=>decide (s.st<st)):=by
  rw[←zL,List.takeWhile_append_dropWhile]
 rw[this];constructor
 ·rintro(h|h|h)
  ·exact .inr (.inl h)
  ·exact .inl h
  ·exact .inr (.inr h)
 ·rintro(h|h|h)
  ·exact .inr (.inl h)
  ·exact .inl h
  ·exact .inr (.inr h)
theorem DA (h:dD c ss){st:Nat}(hd:∀s∈ss,s.st+c.aF<=st\/st+c.aF<=s.st):dD c (gU c ss st):=by
 refine⟨h.ok,λs m=>?_,?_⟩
 ·rcases KQ.1 m with rfl|m
  ·simp
  ·exact h.tk s m
 ·have g:=UY h.pf st;have u:=h.pg;rw[GH];refine oE.2 ⟨h.ra.sublist (yB _ _),qd.2 ⟨λb e=>?_,h.ra.sublist (List.drop_sublist _ _)⟩,λa r b e=>?_⟩
  ·obtain⟨i,d⟩:=zO e;rw[kj]at d;have:=g.2 _ _ d;rcases hd b (rF e)with h1|h1
   ·omega
   ·exact h1
  ·obtain⟨i,d⟩:=zO r;rw[zj]at d;split at d
   ·rename_i hlt;rcases zX.1 e with rfl|e
    ·have:=(g.2 _ _ d).2 hlt;rcases hd a (zG d)with h1|h1
     ·exact h1
     ·omega
    ·obtain⟨j,p⟩:=zO e;rw[kj]at p;exact h.qI d p O
   ·cases d
theorem CT (h:dD c ss){st:Nat}(hd:∀s∈ss,s.st+c.aF<=st\/st+c.aF<=s.st){y:Int}:Tk c (gU c ss st) y↔Tk c ss y:=by
 rw[VC (DA h hd),VC h];constructor
 ·rintro⟨k,s,i,hs,hi,rfl,hb⟩;rcases KQ.1 (zG hs)with rfl|hm
  ·have:(⟨st,List.replicate c.n false⟩:cF).is i=false:=Ek (by simp[cF.many,wq]) i;rw[this]at hb;cases hb
  ·obtain⟨l,a⟩:=zO hm;exact⟨l,s,i,a,hi,rfl,hb⟩
 ·rintro⟨k,s,i,hs,hi,rfl,hb⟩;obtain⟨l,a⟩:=zO (KQ.2 (.inr (zG hs)):s∈gU c ss st);exact⟨l,s,i,a,hi,rfl,hb⟩
theorem LJ {st:Nat}(hd:∀s∈ss,s.st+c.aF<=st\/st+c.aF<=s.st):HC c ss st=0:=by
 unfold HC;rw[zB];simp only[jU,zS,not_exists,not_and];intro s hs hlt;rcases hd s hs with h|h<;>omega
end Go.Ar
namespace Go.Ar
open Go.Bu (Y4 Ql YW oh KG dA take QV Kf Bounded)
def gf (st:List Nat)(p:Nat):Nat:=st.getD p 0
def AR.f (A:AR)(p:Nat):Nat:=gf A.st p
def lG (rs:List (Nat×Nat))(p:Nat):Prop:=∃r∈rs,r.1<=p/\p<r.1+r.2
theorem Et {st:List Nat}{p:Nat}(h:gf st p≠0):p<st.length:=by
 apply Classical.byContradiction;intro hn;exact h (by unfold gf;rw[zN,zT O];rfl)
theorem sB {st:List Nat}{a b v p:Nat}(hb:b<=st.length):gf (fW st a b v) p=if a<=p/\p<b then v else gf st p:=by
 unfold gf;rw[zN,zN,Uv];by_cases hp:p<st.length
 ·rw[cW hp];simp only[zc,oB]
 ·rw[zT O,zB O];rfl
theorem VL {n a m:Nat}:Y4 n (a:Int) (m:Int)=true↔1<=m/\a+m<=n:=by
 simp only[Y4,zE,zS];omega
theorem MF {st:List Nat}{a m:Nat}{fr:List Nat}(hl:a+m<=st.length):sq st a m fr=true↔∀p,a<=p->p<a+m->gf st p∈fr:=by
 unfold sq;rw[zr];constructor
 ·intro h p h1 h2;have d:p<st.length:=by omega
  have:st[p]∈(st.drop a).take m:=by
   refine zG (i:=p-a) ?_;rw[zj,zC O,kj,show a+(p-a)=p by omega,cW d]
  have:=h _ this;unfold gf;rw[zN,cW d];simpa using this
 ·intro h x hx;obtain⟨i,b⟩:=zO hx;rw[zj]at b;split at b
  ·rename_i hlt;rw[kj]at b;have:=h (a+i) O O;unfold gf at this;rw[zN,b]at this;simpa using this
  ·cases b
theorem BU {st:List Nat}{a m v:Nat}{fr:List Nat}(h1:1<=m)(hl:a+m<=st.length)(h:∀p,a<=p->p<a+m->gf st p∈fr):VW st (a:Int) (m:Int) v fr=fW st a (a+m) v:=by
 unfold VW Gz;rw[zC (VL.2 ⟨h1,hl⟩),dC,dC,(MF hl).2 h];rfl
structure PG (A:AR):Prop where
 len:A.st.length=A.n
 n1:32<=A.n
 n2:A.n<=1024
 n16:A.n%16=0
 le:∀p,A.f p<=3
 us:∀p,A.f p=1↔A.ow p≠0
 fr:∀p,A.S p=true↔2<=A.f p
 hp:∀p,A.f p=0↔A.f (p/16*16)=0
theorem PG.lt {A:AR}(h:PG A){p:Nat}(hp:A.f p≠0):p<A.n:=h.len▸Et hp
theorem PG.iZ {A:AR}(h:PG A):Bounded A.S A.n:=λp a=>h.lt (by have:=(h.fr p).1 a;omega)
theorem PG.kc {A:AR}(h:PG A){p q:Nat}(e:p/16=q/16):A.f p=0↔A.f q=0:=by rw[h.hp p,h.hp q,e]
theorem PG.same {A B:AR}(h:PG A)(e1:B.n=A.n)(e2:B.st=A.st)(e3:B.S=A.S)(e4:B.ow=A.ow):PG B:=by
 have a:∀p,B.f p=A.f p:=λp=>by unfold AR.f;rw[e2]
 exact⟨by rw[e2,e1];exact h.len,by rw[e1];exact h.n1,by rw[e1];exact h.n2,by rw[e1];exact h.n16,λp=>by rw[a];exact h.le p,λp=>by rw[a,e4];exact h.us p,λp=>by rw[a,e3];exact h.fr p,λp=>by rw[a,a];exact h.hp p⟩
theorem C0 {ow:Nat->Nat}{a m no:Nat}(h1:1<=m)(h2:a+m<=1024)(p:Nat):jl ow a m no p=if a<=p/\p<a+m then no else ow p:=by
 unfold jl;rw[zC (VL.2 ⟨h1,h2⟩)]
theorem Ci {n:Nat}{S:Nat->Bool}{a m:Nat}(h1:1<=m)(h2:a+m<=n)(h:∀p,a<=p->p<a+m->S p=false):Ql n S (a:Int) (m:Int)=dA S a (a+m):=by
 unfold Ql;rw[VL.2 ⟨h1,h2⟩,dC,dC,KG.2 h];rfl
structure Out (A B:AR) (a b:Nat):Prop where
 n:B.n=A.n
 len:B.st.length=A.st.length
 f:∀p,¬(a<=p/\p<b)->B.f p=A.f p
 ow:∀p,¬(a<=p/\p<b)->B.ow p=A.ow p
 S:∀p,¬(a<=p/\p<b)->B.S p=A.S p
theorem Out.pg {A B:AR}{a b v:Nat}(o:Out A B a b)(h:PG A)(hv:v<=3)(hf:∀p,a<=p->p<b->B.f p=v)(hw:∀p,a<=p->p<b->(v=1↔B.ow p≠0))(hS:∀p,a<=p->p<b->(B.S p=true↔2<=v))
 (hz:∀p,B.f p=0↔B.f (p/16*16)=0):PG B:=by
 refine⟨by rw[o.len,o.n];exact h.len,by rw[o.n];exact h.n1,by rw[o.n];exact h.n2,by rw[o.n];exact h.n16,λp=>?_,λp=>?_,λp=>?_,hz⟩
 ·by_cases hp:a<=p/\p<b
  ·rw[hf p hp.1 hp.2];exact hv
  ·rw[o.f p hp];exact h.le p
 ·by_cases hp:a<=p/\p<b
  ·rw[hf p hp.1 hp.2];exact hw p hp.1 hp.2
  ·rw[o.f p hp,o.ow p hp];exact h.us p
 ·by_cases hp:a<=p/\p<b
  ·rw[hf p hp.1 hp.2];exact hS p hp.1 hp.2
  ·rw[o.f p hp,o.S p hp];exact h.fr p
theorem Out.zero {A B:AR}{a b v:Nat}(o:Out A B a b)(h:PG A)(hf:∀p,a<=p->p<b->B.f p=v)(hv:v≠0)(hA:∀p,a<=p->p<b->A.f p≠0):∀p,B.f p=0↔A.f p=0:=by
 intro p;by_cases hp:a<=p/\p<b
 ·rw[hf p hp.1 hp.2];exact⟨λe=>(hv e).elim,λe=>(hA p hp.1 hp.2 e).elim⟩
 ·rw[o.f p hp]
theorem CF {A B:AR}(h:PG A)(e:∀p,B.f p=0↔A.f p=0):∀p,B.f p=0↔B.f (p/16*16)=0:=λp=>by rw[e,e];exact h.hp p
theorem BJ {A:AR}(h:PG A){a m:Nat}(h1:1<=m)(hu:∀p,a<=p->p<a+m->A.f p=1):Out A (Vo A (a,m)) a (a+m)/\(∀p,a<=p->p<a+m->(Vo A (a,m)).f p=2/\(Vo A (a,m)).ow p=0)/\PG (Vo A (a,m))/\∀p,(Vo A (a,m)).f p=0↔A.f p=0:=by
 have g:a+m<=A.n:=by have:=h.lt (p:=a+m-1) (by rw[hu _ O O];omega);omega
 have w:=h.n2;have e1:(Vo A (a,m)).st=fW A.st a (a+m) 2:=BU h1 (by rw[h.len];exact g) λp b d=>by
  have:=hu p b d;unfold AR.f at this;rw[this];simp
 have e2:(Vo A (a,m)).S=dA A.S a (a+m):=Ci h1 g λp b d=>by
  apply mK.2;intro hS;have:=(h.fr p).1 hS;have:=hu p b d;omega
 have r:∀p,(Vo A (a,m)).ow p=if a<=p/\p<a+m then 0 else A.ow p:=λp=>C0 h1 O p
 have u:∀p,(Vo A (a,m)).f p=if a<=p/\p<a+m then 2 else A.f p:=λp=>by unfold AR.f;rw[e1,sB (by rw[h.len];exact g)]
 have o:Out A (Vo A (a,m)) a (a+m):=⟨rfl,by rw[e1,Ki],λp e=>by rw[u,zB e],λp e=>by rw[r,zB e],λp e=>by
  rw[e2];unfold dA;have:(decide (a<=p)&&decide (p<a+m))=false:=by simp;omega
  rw[this,Bool.or_false]⟩
 have i:∀p,a<=p->p<a+m->(Vo A (a,m)).f p=2:=λp b d=>by rw[u,zC ⟨b,d⟩]
 have j:∀p,a<=p->p<a+m->(Vo A (a,m)).ow p=0:=λp b d=>by rw[r,zC ⟨b,d⟩]
 have s:=o.zero h i O λp b d=>by rw[hu p b d];omega
 refine⟨o,λp b d=>⟨i p b d,j p b d⟩,o.pg h O i (λp b d=>by rw[j p b d];simp) (λp b d=>?_) (CF h s),s⟩;rw[e2,QV];exact⟨λ_=>zD _,λ_=>.inr ⟨b,d⟩⟩
structure qC (A B:AR) (rs:List (Nat×Nat)):Prop where
 pg:PG B
 n:B.n=A.n
 tb:B.tb=A.tb
 room:B.room=A.room
 cM:B.cM=A.cM
 cD:B.cD=A.cD
 runs:B.runs=A.runs
 i:∀p,lG rs p->B.f p=2/\B.ow p=0
 o:∀p,¬lG rs p->B.f p=A.f p/\B.ow p=A.ow p
 z:∀p,B.f p=0↔A.f p=0
theorem AO:∀(rs:List (Nat×Nat)) {A:AR},PG A->(∀r∈rs,1<=r.2)->(∀r∈rs,∀p,r.1<=p->p<r.1+r.2->A.f p=1)->rs.Pairwise (λa b=>a.1+a.2<=b.1\/b.1+b.2<=a.1)->qC A (VF A rs) rs
 | [],A,h,_,_,_=>⟨h,rfl,rfl,rfl,rfl,rfl,rfl,λp ⟨r,hr,_⟩=>by simp at hr,λp _=>⟨rfl,rfl⟩,λp=>Iff.rfl⟩
 | (a,m)::rs,A,h,hp,hu,hd=>by
  have hd':=qd.1 hd;obtain⟨o,C,x,B⟩:=BJ h (hp _ (qs ..)) (hu _ (qs ..));have d:=AO rs x (λr hr=>hp r (ou _ hr)) (λr hr p s u=>by
   have:=hd'.1 r hr;simp only at this;rw[o.f p O];exact hu r (ou _ hr) p s u) hd'.2
  have e:VF A ((a,m)::rs)=VF (Vo A (a,m)) rs:=rfl;rw[e];refine⟨d.pg,d.n,d.tb,d.room,d.cM,d.cD,d.runs,λp g=>?_,λp g=>?_,λp=>(d.z p).trans (B p)⟩
  ·by_cases j:lG rs p
   ·exact d.i p j
   ·have:=d.o p j;obtain⟨r,hr,s,u⟩:=g;rcases zX.1 hr with rfl|hr
    ·rw[this.1,this.2];exact C p s u
    ·exact(j ⟨r,hr,s,u⟩).elim
  ·have j:¬lG rs p:=λ⟨r,hr,w⟩=>g ⟨r,ou _ hr,w⟩;have y:¬(a<=p/\p<a+m):=λw=>g ⟨(a,m),qs ..,w⟩;have:=d.o p j;exact⟨this.1.trans (o.f p y),this.2.trans (o.ow p y)⟩
theorem yx {A:AR}(h:PG A){a m no:Nat}(h1:1<=m)(hn:no≠0)(hS:∀p,a<=p->p<a+m->A.S p=true):Out A (dN A a m no) a (a+m)/\(∀p,a<=p->p<a+m->(dN A a m no).f p=1/\(dN A a m no).ow p=no)/\PG (dN A a m no)/\∀p,(dN A a m no).f p=0↔A.f p=0:=by
 have g:∀p,a<=p->p<a+m->2<=A.f p:=λp b d=>(h.fr p).1 (hS p b d);have j:a+m<=A.n:=by have:=h.lt (p:=a+m-1) (by have:=g (a+m-1) O O;omega);omega
 have y:=h.n2;have e1:(dN A a m no).st=fW A.st a (a+m) 1:=BU h1 (by rw[h.len];exact j) λp b d=>by
  have z:=g p b d;have x:=h.le p;unfold AR.f at z x;have:gf A.st p=2\/gf A.st p=3:=by omega
  simpa using this
 have s:∀p,(dN A a m no).ow p=if a<=p/\p<a+m then no else A.ow p:=λp=>C0 h1 O p
 have w:∀p,(dN A a m no).f p=if a<=p/\p<a+m then 1 else A.f p:=λp=>by unfold AR.f;rw[e1,sB (by rw[h.len];exact j)]
 have o:Out A (dN A a m no) a (a+m):=⟨rfl,by rw[e1,Ki],λp e=>by rw[w,zB e],λp e=>by rw[s,zB e],λp e=>by
  show take A.S a (a+m) p=A.S p;unfold take;have:(decide (a<=p)&&decide (p<a+m))=false:=by simp;omega
  rw[this];simp⟩
 have i:∀p,a<=p->p<a+m->(dN A a m no).f p=1:=λp b d=>by rw[w,zC ⟨b,d⟩]
 have r:∀p,a<=p->p<a+m->(dN A a m no).ow p=no:=λp b d=>by rw[s,zC ⟨b,d⟩]
 have u:=o.zero h i O λp b d=>by have:=g p b d;omega
 refine⟨o,λp b d=>⟨i p b d,r p b d⟩,o.pg h O i (λp b d=>by rw[r p b d];simp[hn]) (λp b d=>?_) (CF h u),u⟩;show take A.S a (a+m) p=true↔_;rw[Kf];constructor
 ·rintro⟨_,hx⟩;exact(hx ⟨b,d⟩).elim
 ·intro hx;omega
theorem Cw:∀(m:Nat) {st:List Nat} {a:Nat},(a+m)*16<=st.length->(∀p,a*16<=p->p<(a+m)*16->gf st p=0)->(Ub st a m).length=st.length/\∀p,gf (Ub st a m) p=if a*16<=p/\p<(a+m)*16 then 3 else gf st p
 | 0,st,a,hl,hz=>⟨rfl,λp=>by rw[zB O];rfl⟩
 | m+1,st,a,hl,hz=>by
  obtain⟨i1,i2⟩:=Cw m (st:=st) (a:=a) O λp d g=>hz p d O;rw[CS];have b:gf (Ub st a m) (16*(a+m))=0:=by rw[i2,zB O];exact hz _ O O
  have ok:j6 (Ub st a m) ((a+m:Nat):Int)=0:=by
   unfold j6;rw[Db (by rw[i1];omega),zC rfl,dC];unfold gf at b;rw[zC b]
  have e:iE (Ub st a m) ((a+m:Nat):Int)=fW (Ub st a m) (16*(a+m)) (16*(a+m)+16) 3:=by
   unfold iE;rw[zC ok,dC]
  rw[e];refine⟨by rw[Ki,i1],λp=>?_⟩;rw[sB (by rw[i1];omega),i2];by_cases h1:16*(a+m)<=p/\p<16*(a+m)+16
  ·rw[zC h1,zC O]
  ·rw[zB h1];by_cases h2:a*16<=p/\p<(a+m)*16
   ·rw[zC h2,zC O]
   ·rw[zB h2,zB O]
theorem Gg {sp:Sp}{s m:Nat}(h:eT sp (s:Int) (m:Int)=0):1<=m/\s+m<=sp.st.length/\∀p,s<=p->p<s+m->gf sp.st p=0:=by
 unfold eT at h;split at h
 ·rename_i hr;obtain⟨e,d⟩:=VL.1 hr;rw[dC,dC]at h;split at h
  ·cases h
  ·rename_i hn;refine⟨e,d,λp g j=>?_⟩;have a:p<sp.st.length:=by omega
   have b:sp.st[p]∈(sp.st.drop s).take m:=by
    refine zG (i:=p-s) ?_;rw[zj,zC O,kj,show s+(p-s)=p by omega,cW a]
   simp only[jU,not_exists,not_and]at hn;have:=hn _ b;unfold gf;rw[zN,cW a];simpa using this
 ·cases h
structure Grown (A B:AR) (sp sp':Sp) (s size:Nat):Prop where
 pg:PG B
 n:B.n=A.n
 tb:B.tb=A.tb
 room:B.room=A.room
 cM:B.cM=A.cM
 cD:B.cD=A.cD
 runs:B.runs=A.runs
 ow:B.ow=A.ow
 Pz:s%16=0
 s1:16<=s
 sl:s+size<=A.n
 un:∀p,s<=p->p<s+size->gf sp.st p=0
 i:∀p,s<=p->p<s+size->B.f p=3/\gf sp'.st p=1
 o:∀p,¬(s<=p/\p<s+size)->B.f p=A.f p/\gf sp'.st p=gf sp.st p
 w:∀x,¬(s*32<=x/\x<(s+size)*32)->sp'.wd x=sp.wd x
 l:sp'.st.length=sp.st.length
 pk:sp'.pk=sp.pk
theorem Uf {sp:Sp}{size s:Nat}(h1:1<=size)(h:cU sp size=some s):eT sp (s:Int) (size:Int)=0/\s≠0/\(∃j,s=j*size)/\∀j,j*size<s->1<=j->eT sp ((j*size:Nat):Int) (size:Int)≠0:=by
 unfold cU at h;obtain⟨r,us,vs,u,y⟩:=List.find?_eq_some_iff_append.1 h;simp only[zE,bne_iff_ne,ne_eq,zV]at r;have g:s∈(List.range (sp.st.length/size)).map (· * size):=by rw[u];simp
 obtain⟨j,w,rfl⟩:=zF.1 g;rw[zh]at w;refine⟨r.2,r.1,⟨j,rfl⟩,λi A z=>?_⟩;have x:i<j:=Nat.lt_of_mul_lt_mul_right A;have:i*size∈us:=by
  have e:i*size∈(List.range (sp.st.length/size)).map (· * size):=zF.2 ⟨i,zh.2 O,rfl⟩;have d:((List.range (sp.st.length/size)).map (· * size)).Pairwise (· < ·):=by
   rw[sF];exact List.pairwise_lt_range.imp λ{a b} p=>Nat.mul_lt_mul_of_pos_right p O
  rw[u]at e d;rcases zL.1 e with h|h
  ·exact h
  ·rcases zX.1 h with h|h
   ·have:=uV O h;omega
   ·have:=(qd.1 (oE.1 d).2.1).1 _ h;omega
 have:=y _ this;have m:i*size≠0:=by
  have:=Nat.mul_pos (show 0<i by omega) (show 0<size by omega);omega
 simpa[m]using this
theorem Cu {sp:Sp}{s m:Nat}(h:eT sp (s:Int) (m:Int)=0):(fN sp (s:Int) (m:Int)).st.length=sp.st.length/\(∀p,gf (fN sp (s:Int) (m:Int)).st p=if s<=p/\p<s+m then 1 else gf sp.st p)/\(∀x,¬(s*32<=x/\x<(s+m)*32)->(fN sp (s:Int) (m:Int)).wd x=sp.wd x)/\(fN sp (s:Int) (m:Int)).pk=sp.pk:=by
 obtain⟨d,a,_⟩:=Gg h;unfold fN;rw[zC h,dC,dC];refine⟨by simp[Sp.set,Ki],λp=>sB a,λx b=>?_,rfl⟩;show(if s*32<=x/\x<(s+m)*32 then 0 else sp.wd x)=_
 rw[zB b]
theorem JU {A:AR}{sp:Sp}(h:PG A)(hl:sp.st.length=A.n)(hz:∀p,gf sp.st p=0->A.f p=0){size:Nat}(hs:size=16\/size=32\/size=64){B:AR}{sp':Sp}(hg:Ud A sp size=some (B,sp')) :
 ∃s,cU sp size=some s/\Grown A B sp sp' s size:=by
 unfold Ud at hg;split at hg
 ·cases hg
 ·rename_i s hgs;cases hg;obtain⟨x,G,⟨j,K⟩,_⟩:=Uf O hgs;obtain⟨J,y,z⟩:=Gg x;have m:s%16=0:=by rcases hs with rfl|rfl|rfl<;>omega
  have u:size%16=0:=by rcases hs with rfl|rfl|rfl<;>omega
  have e1:s/16*16=s:=by omega
  have e2:(s/16+size/16)*16=s+size:=by omega
  have e:∀p,s<=p->p<s+size->A.f p=0:=λp b d=>hz p (z p b d);obtain⟨E,i⟩:=Cw (size/16) (st:=A.st) (a:=s/16) (by rw[e2,h.len,←hl];exact y) (by rw[e1,e2];exact e);rw[e1,e2]at i;obtain⟨H,w,D,F⟩:=Cu x;have g:s+size<=A.n:=by rw[←hl];exact y
  have C:Ql A.n A.S (s:Int) (size:Int)=dA A.S s (s+size):=Ci J g λp b d=>by
   apply mK.2;intro hS;have:=(h.fr p).1 hS;have:=e p b d;omega
  refine⟨s,hgs,⟨?_,rfl,rfl,rfl,rfl,rfl,rfl,rfl,m,O,g,z,λp b d=>⟨?_,?_⟩,λp hp=>⟨?_,?_⟩,D,H,F⟩⟩
  ·have o:Out A {A with st:=Ub A.st (s/16) (size/16),S:=Ql A.n A.S (s:Int) (size:Int)} s (s+size):=⟨rfl,E,λp hp=>by show gf _ p=_;rw[i,zB hp];rfl,λp hp=>rfl,λp hp=>by
    show Ql A.n A.S (s:Int) (size:Int) p=A.S p;rw[C];unfold dA;have:(decide (s<=p)&&decide (p<s+size))=false:=by simp;omega
    rw[this,Bool.or_false]⟩
   have r:∀p,s<=p->p<s+size->AR.f {A with st:=Ub A.st (s/16) (size/16),S:=Ql A.n A.S (s:Int) (size:Int)} p=3:=λp b d=>by show gf _ p=3;rw[i,zC ⟨b,d⟩]
   refine o.pg h (zD _) r (λp b d=>?_) (λp b d=>?_) λp=>?_
   ·have G:=e p b d;have:=h.us p;constructor
    ·intro hx;omega
    ·intro hx;have:=this.2 hx;omega
   ·show Ql A.n A.S (s:Int) (size:Int) p=true↔_;rw[C,QV];exact⟨λ_=>O,λ_=>.inr ⟨b,d⟩⟩
   ·by_cases hp:s<=p/\p<s+size
    ·rw[r p hp.1 hp.2,r (p/16*16) O O]
    ·rw[o.f p hp,o.f (p/16*16) O];exact h.hp p
  ·show gf (Ub A.st (s/16) (size/16)) p=3;rw[i,zC ⟨b,d⟩]
  ·rw[w,zC ⟨b,d⟩]
  ·show gf (Ub A.st (s/16) (size/16)) p=A.f p;rw[i,zB hp];rfl
  ·rw[w,zB hp]
end Go.Ar
namespace Go.Ar
open Go.Bu (Y4 Ql YW oh KG dA take QV Kf Bounded full can Yj V2 Zn Qp Zx QZ Qr ZT)
def Cl (A:AR)(k:Nat)(c:bZ)(ss:List cF):Prop:=A.tb[k]?=some c/\A.cD[k]?=some ss
def fF (A:AR)(k:Nat)(x:Int):Prop:=∃c ss,Cl A k c ss/\Tk c ss x
def gK (A:AR)(k:Nat)(x:Int):Prop:=∃t,A.cM[k]?=some t/\x∈t.bs.flatten
structure GA (A:AR):Prop where
 pg:PG A
 tb:A.tb.length<=40
 lc:A.cD.length=A.tb.length
 lt:A.cM.length=A.tb.length
 cD:∀k c ss,Cl A k c ss->dD c ss
 one:∀k c ss,Cl A k c ss->∀s∈ss,s.st/16=(s.st+c.aF-1)/16
 ow:∀k c ss,Cl A k c ss->∀p,A.ow p=k+1↔sy c ss p
 ju:∀p,A.ow p=41↔lG A.runs p
 qa:∀p,A.ow p=41\/A.ow p<=A.tb.length
 gC:∀r∈A.runs,1<=r.2
 jO:A.runs.Pairwise λa b=>a.1+a.2<=b.1\/b.1+b.2<=a.1
 ot:∀(k:Nat) (t:fX),A.cM[k]?=some t->t.bs.flatten.Nodup
 ln:∀(k:Nat) c ss (t:fX),Cl A k c ss->A.cM[k]?=some t->∀x∈t.bs.flatten,Tk c ss x
 oc:∀(k:Nat) (c:bZ) (t:fX),A.tb[k]?=some c->A.cM[k]?=some t->∀xs∈t.bs,xs.length=c.batch
structure Kp (A B:AR):Prop where
 n:B.n=A.n
 tb:B.tb=A.tb
 room:B.room=A.room
 z:∀p,B.f p=0↔A.f p=0
 t:∀p,B.f p=3->A.f p=3
theorem Kp.refl (A:AR):Kp A A:=⟨rfl,rfl,rfl,λ_=>Iff.rfl,λ_=>id⟩
theorem Kp.trans {A B C:AR}(h:Kp A B)(k:Kp B C):Kp A C:=⟨k.n.trans h.n,k.tb.trans h.tb,k.room.trans h.room,λp=>(k.z p).trans (h.z p),λp a=>h.t p (k.t p a)⟩
theorem Kp.aF {A B:AR}(e1:B.n=A.n)(e2:B.tb=A.tb)(e3:B.room=A.room)(e4:B.st=A.st):Kp A B:=⟨e1,e2,e3,λp=>by unfold AR.f;rw[e4],λp=>by unfold AR.f;rw[e4];exact id⟩
variable {A:AR}{k:Nat}{c:bZ}{ss:List cF}
theorem Cl.lt (h:Cl A k c ss):k<A.tb.length:=(cX.1 h.1).1
theorem Cl.eq {c':bZ}{ss':List cF}(h:Cl A k c ss)(h':Cl A k c' ss'):c=c'/\ss=ss':=⟨Option.some.inj (h.1.symm.trans h'.1),Option.some.inj (h.2.symm.trans h'.2)⟩
theorem GA.cl (h:GA A){k:Nat}(hk:k<A.tb.length):∃c ss t,Cl A k c ss/\A.cM[k]?=some t:=by
 have b:=h.lc;have a:=h.lt;exact⟨A.tb[k],A.cD[k],A.cM[k],⟨by simp,by simp⟩,by simp⟩
theorem GA.used (h:GA A)(hk:Cl A k c ss){s:cF}(hs:s∈ss){p:Nat}(h1:s.st<=p)(h2:p<s.st+c.aF):A.f p=1/\A.ow p=k+1:=by
 have:=(h.ow k c ss hk p).2 ⟨s,hs,h1,h2⟩;exact⟨(h.pg.us p).2 O,this⟩
theorem GA.jc (h:GA A){r:Nat×Nat}(hr:r∈A.runs){p:Nat}(h1:r.1<=p)(h2:p<r.1+r.2):A.f p=1/\A.ow p=41:=by
 have:=(h.ju p).2 ⟨r,hr,h1,h2⟩;exact⟨(h.pg.us p).2 O,this⟩
theorem GA.gJ (h:GA A){r s:Nat×Nat}(hr:r∈A.runs)(hs:s∈A.runs){x:Nat}(h1:r.1<=x)(h2:x<r.1+r.2)(h3:s.1<=x)(h4:x<s.1+s.2):r=s:=by
 obtain⟨i,d⟩:=zO hr;obtain⟨j,e⟩:=zO hs;obtain⟨a,rfl⟩:=cX.1 d;obtain⟨b,rfl⟩:=cX.1 e;rcases oF i j with hl|hl|hl
 ·have:=lu.1 h.jO i j a b hl;omega
 ·subst hl;rfl
 ·have:=lu.1 h.jO j i b a hl;omega
theorem GA.fit (h:GA A){r:Nat×Nat}(hr:r∈A.runs):r.1+r.2<=A.n:=by
 have:=h.gC r hr;have:=h.pg.lt (p:=r.1+r.2-1) (by rw[(h.jc hr (p:=r.1+r.2-1) O O).1];omega);omega
theorem GA.ns (h:GA A):iw A:=by
 have w:=h.pg.n2;refine⟨λr b s j x g d m p=>h.gJ b j g d m p,λx i a=>?_,λx i u a=>?_,λr b=>?_⟩
 ·obtain⟨r,b,g,d⟩:=(h.ju x).1 a;unfold pZ;rw[Ae];exact⟨r,b,by simp[g,d]⟩
 ·rcases h.qa x with e|e
  ·exact(a e).elim
  ·exact e
 ·have:=h.fit b;omega
theorem VQ (hk:Cl A k c ss){ss':List cF}{j:Nat}{d:bZ}{tt:List cF}(h:Cl {A with cD:=A.cD.set k ss'} j d tt):(j=k/\d=c/\tt=ss')\/(j≠k/\Cl A j d tt):=by
 obtain⟨b,a⟩:=h;by_cases hjk:j=k
 ·subst hjk;have e:=(cX.1 hk.2).1;simp only[zJ e]at a;exact .inl ⟨rfl,Option.some.inj (b.symm.trans hk.1),(Option.some.inj a).symm⟩
 ·simp only[ze (Ne.symm hjk)]at a;exact .inr ⟨hjk,b,a⟩
theorem Uo (hk:Cl A k c ss)(ss':List cF):Cl {A with cD:=A.cD.set k ss'} k c ss':=⟨hk.1,zJ (cX.1 hk.2).1⟩
theorem FO {ss':List cF}{j:Nat}{d:bZ}{tt:List cF}(hjk:j≠k)(h:Cl A j d tt):Cl {A with cD:=A.cD.set k ss'} j d tt:=⟨h.1,(ze (Ne.symm hjk)).trans h.2⟩
theorem GA.kh (h:GA A)(hk:Cl A k c ss){ss':List cF}(hC:dD c ss')(hst:ss'.map (·.st)=ss.map (·.st))(ht:∀t,A.cM[k]?=some t->∀x∈t.bs.flatten,Tk c ss' x):GA {A with cD:=A.cD.set k ss'}:=by
 refine⟨h.pg.same rfl rfl rfl rfl,h.tb,by simp[h.lc],h.lt,λj d b a=>?_,λj d b a s i=>?_,λj d b a p=>?_,h.ju,h.qa,h.gC,h.jO,h.ot,λj d b t a g=>?_,h.oc⟩
 ·rcases VQ hk a with⟨rfl,rfl,rfl⟩|⟨hne,a⟩
  ·exact hC
  ·exact h.cD j d b a
 ·rcases VQ hk a with⟨rfl,rfl,rfl⟩|⟨hne,a⟩
  ·have:s.st∈ss.map (·.st):=by rw[←hst];exact zF.2 ⟨s,i,rfl⟩
   obtain⟨t,ht,e⟩:=zF.1 this;rw[←e];exact h.one _ _ _ hk t ht
  ·exact h.one j d b a s i
 ·rcases VQ hk a with⟨rfl,rfl,rfl⟩|⟨hne,a⟩
  ·rw[EF hst];exact h.ow _ _ _ hk p
  ·exact h.ow j d b a p
 ·rcases VQ hk a with⟨rfl,rfl,rfl⟩|⟨hne,a⟩
  ·exact ht t g
  ·exact h.ln j d b t a g
theorem vF (hk:Cl A k c ss){ss':List cF}{j:Nat}{x:Int}:fF {A with cD:=A.cD.set k ss'} j x↔(j=k/\Tk c ss' x)\/(j≠k/\fF A j x):=by
 constructor
 ·rintro⟨d,tt,hj,hx⟩;rcases VQ hk hj with⟨rfl,rfl,rfl⟩|⟨hne,hj⟩
  ·exact .inl ⟨rfl,hx⟩
  ·exact .inr ⟨hne,d,tt,hj,hx⟩
 ·rintro(⟨rfl,hx⟩|⟨hne,d,tt,hj,hx⟩)
  ·exact⟨c,ss',Uo hk ss',hx⟩
  ·exact⟨d,tt,FO hne hj,hx⟩
theorem KH (hk:Cl A k c ss){x:Int}:fF A k x↔Tk c ss x:=by
 constructor
 ·rintro⟨d,tt,hj,hx⟩;obtain⟨rfl,rfl⟩:=hk.eq hj;exact hx
 ·intro hx;exact⟨c,ss,hk,hx⟩
def swp (A:AR)(k:Nat)(c:bZ)(ss:List cF):AR:=VF {A with cD:=A.cD.set k (cK ss)} ((Z9 ss).map λs=>(s,c.aF))
theorem GU {p:Nat}:lG ((Z9 ss).map λs=>(s,c.aF)) p↔∃x∈Z9 ss,x<=p/\p<x+c.aF:=by
 unfold lG;simp only[zF];constructor
 ·rintro⟨_,⟨x,hx,rfl⟩,h⟩;exact⟨x,hx,h⟩
 ·rintro⟨x,hx,h⟩;exact⟨_,⟨x,hx,rfl⟩,h⟩
theorem GA.jD (h:GA A)(hk:Cl A k c ss){x:Nat}(hx:x∈Z9 ss){p:Nat}(h1:x<=p)(h2:p<x+c.aF):A.f p=1/\A.ow p=k+1:=by
 obtain⟨s,a,_,rfl⟩:=GY.1 hx;exact h.used hk a h1 h2
theorem GA.pz (h:GA A)(hk:Cl A k c ss):qC {A with cD:=A.cD.set k (cK ss)} (swp A k c ss) ((Z9 ss).map λs=>(s,c.aF)):=by
 have g:=h.cD k c ss hk;refine AO _ (h.pg.same rfl rfl rfl rfl) (λr e=>?_) (λr e p i m=>?_) ?_
 ·obtain⟨x,_,rfl⟩:=zF.1 e;exact g.pg
 ·obtain⟨x,j,rfl⟩:=zF.1 e;exact(h.jD hk j i m).1
 ·rw[sF];exact(EA g).imp λ{a b} d=>.inl d
theorem GA.swp (h:GA A)(hk:Cl A k c ss):GA (Go.Ar.swp A k c ss):=by
 have b:=h.pz hk;have w:=h.cD k c ss hk;have E:=hk.lt;have D:=h.tb;have cl:∀{j d m},Cl (Go.Ar.swp A k c ss) j d m->(j=k/\d=c/\m=cK ss)\/(j≠k/\Cl A j d m):=λ{j d m} a=>VQ hk ⟨by rw[←b.tb];exact a.1,by rw[←b.cD];exact a.2⟩;have own:∀p,lG ((Z9 ss).map λs=>(s,c.aF)) p->A.ow p=k+1:=λp g=>by
  obtain⟨x,u,F,C⟩:=GU.1 g;exact(h.jD hk u F C).2
 have cM:(Go.Ar.swp A k c ss).cM=A.cM:=b.cM;have tb:(Go.Ar.swp A k c ss).tb=A.tb:=b.tb;have runs:(Go.Ar.swp A k c ss).runs=A.runs:=b.runs;refine⟨b.pg,by rw[tb];exact h.tb,by rw[b.cD,tb];simp[h.lc],by rw[cM,tb];exact h.lt,λj d m a=>?_,λj d m a s y=>?_,λj d m a p=>?_,λp=>?_,λp=>?_,by rw[runs];exact h.gC,by rw[runs];exact h.jO,by rw[cM];exact h.ot,λj d m t a r=>?_,by rw[cM,tb];exact h.oc⟩
 ·rcases cl a with⟨rfl,rfl,rfl⟩|⟨hne,a⟩
  ·exact w.cK
  ·exact h.cD j d m a
 ·rcases cl a with⟨rfl,rfl,rfl⟩|⟨hne,a⟩
  ·exact h.one _ _ _ hk s (zI.1 y).1
  ·exact h.one j d m a s y
 ·by_cases g:lG ((Z9 ss).map λs=>(s,c.aF)) p
  ·rw[(b.i p g).2];have B:=own p g;rcases cl a with⟨rfl,rfl,rfl⟩|⟨hne,a⟩
   ·rw[Ee w];constructor
    ·intro e;omega
    ·rintro⟨_,hn⟩;exact(hn (GU.1 g)).elim
   ·rw[←h.ow j d m a p,B];omega
  ·rw[(b.o p g).2];rcases cl a with⟨rfl,rfl,rfl⟩|⟨hne,a⟩
   ·rw[Ee w];show A.ow p=_↔_;rw[h.ow _ _ _ hk p];exact⟨λu=>⟨u,λz=>g (GU.2 z)⟩,λu=>u.1⟩
   ·exact h.ow j d m a p
 ·rw[runs];by_cases g:lG ((Z9 ss).map λs=>(s,c.aF)) p
  ·rw[(b.i p g).2,←h.ju,own p g];omega
  ·rw[(b.o p g).2];exact h.ju p
 ·rw[tb];by_cases g:lG ((Z9 ss).map λs=>(s,c.aF)) p
  ·rw[(b.i p g).2];omega
  ·rw[(b.o p g).2];exact h.qa p
 ·rw[cM]at r;rcases cl a with⟨rfl,rfl,rfl⟩|⟨hne,a⟩
  ·intro x u;exact(CE w).2 (h.ln _ _ _ t hk r x u)
  ·exact h.ln j d m t a r
theorem GA.yf (h:GA A)(hk:Cl A k c ss):Kp A (Go.Ar.swp A k c ss):=by
 have b:=h.pz hk;refine⟨b.n,b.tb,b.room,b.z,λp a=>?_⟩;by_cases hi:lG ((Z9 ss).map λs=>(s,c.aF)) p
 ·rw[(b.i p hi).1]at a;omega
 ·rw[(b.o p hi).1]at a;exact a
theorem GA.xA (h:GA A)(hk:Cl A k c ss){j:Nat}{x:Int}:fF (Go.Ar.swp A k c ss) j x↔fF A j x:=by
 have b:=h.pz hk;have a:=h.cD k c ss hk;have e:fF (Go.Ar.swp A k c ss) j x↔fF {A with cD:=A.cD.set k (cK ss)} j x:=by unfold fF Cl;rw[b.tb,b.cD]
 rw[e,vF hk,CE a];constructor
 ·rintro(⟨rfl,hx⟩|⟨_,hx⟩)
  ·exact(KH hk).2 hx
  ·exact hx
 ·intro hx;by_cases hjk:j=k
  ·subst hjk;exact .inl ⟨rfl,(KH hk).1 hx⟩
  ·exact .inr ⟨hjk,hx⟩
theorem UE {k:Int}:A.ck k=true↔∃j:Nat,k=j/\j<A.tb.length:=by
 unfold AR.ck;simp only[zE,zS];constructor
 ·intro h;exact⟨k.toNat,O,O⟩
 ·rintro⟨j,rfl,h⟩;omega
structure Ob (A B:AR):Prop where
 ga:GA B
 kp:Kp A B
 runs:B.runs=A.runs
theorem A6 (h:GA A)(k m:Int):Ob A (Yk A k m)/\(Yk A k m).cM=A.cM/\(X1 A k m).Nodup/\(X1 A k m≠[]->∃j:Nat,k=j/\j<A.tb.length)/\(∀x∈X1 A k m,¬fF A k.toNat (x:Int)) ∧
 ∀j y,fF (Yk A k m) j y↔fF A j y\/(j=k.toNat/\∃x∈X1 A k m,y=((x:Nat):Int)):=by
 by_cases h0:Qh A k m=0
 ·have d:A.ck k=true:=by
   unfold Qh at h0;split at h0
   ·assumption
   ·cases h0
  obtain⟨j,rfl,u⟩:=UE.1 d;obtain⟨c,ss,t,b,C⟩:=h.cl u;have s:KP A (j:Int) m=QJ c m.toNat ss:=by unfold KP;rw[dC,b.1,b.2]
  have p:Yk A (j:Int) m = {A with cD:=A.cD.set j (QJ c m.toNat ss).2}:=by unfold Yk;rw[zC h0,s,dC]
  have g:X1 A (j:Int) m=(QJ c m.toNat ss).1:=by unfold X1;rw[zC h0,s]
  rw[p,g];obtain⟨s1,s2,D,B,z,r⟩:=Hh m.toNat (h.cD j c ss b);refine⟨⟨h.kh b s1 s2 λw e x a=>(r x).2 (.inr (h.ln j c ss w b e x a)),Kp.aF rfl rfl rfl rfl,rfl⟩,rfl,B,λ_=>⟨j,rfl,u⟩,λx a=>?_,λi y=>?_⟩
  ·rw[dC,KH b];exact z x a
  ·rw[vF b,r,dC];by_cases hij:i=j
   ·subst hij;rw[KH b];constructor
    ·rintro(⟨_,a|a⟩|⟨a,_⟩)
     ·exact .inr ⟨rfl,a⟩
     ·exact .inl a
     ·exact(a rfl).elim
    ·rintro(a|⟨_,a⟩)
     ·exact .inl ⟨rfl,.inr a⟩
     ·exact .inl ⟨rfl,.inl a⟩
   ·constructor
    ·rintro(⟨a,_⟩|⟨_,a⟩)
     ·exact(hij a).elim
     ·exact .inl a
    ·rintro(a|⟨a,_⟩)
     ·exact .inr ⟨hij,a⟩
     ·exact(hij a).elim
 ·have p:Yk A k m=A:=by unfold Yk;rw[zB h0]
  have g:X1 A k m=[]:=by unfold X1;rw[zB h0]
  rw[p,g];exact⟨⟨h,Kp.refl A,rfl⟩,rfl,qG,by simp,by simp,by simp⟩
theorem Dt {xs:List Int}(h:jQ c ss xs):iq c ss xs=0:=by
 unfold iq;have b:xs.any (λx=>(dT c ss x).isNone)=false:=by
  rw[lN];intro x hx;rw[h.1 x hx];simp
 have a:xs.any (λx=>dT c ss x==some false)=false:=by
  rw[lN];intro x hx;rw[h.1 x hx];simp
 rw[b,a,zK h.2];rfl
theorem He (h:GA A)(hk:Cl A k c ss)(xs:List Int):Qx A (k:Int) xs=iq c ss xs:=by
 unfold Qx;rw[UE.2 ⟨k,rfl,hk.lt⟩,zC rfl,dC,hk.1,hk.2]
theorem G2 (h:GA A){k:Int}{xs:List Int}(h0:Qx A k xs=0):∃(j:Nat) (c:bZ) (ss:List cF),k=j/\Cl A j c ss/\jQ c ss xs:=by
 have a:A.ck k=true:=by
  unfold Qx at h0;split at h0
  ·assumption
  ·cases h0
 obtain⟨j,rfl,d⟩:=UE.1 a;obtain⟨c,ss,t,b,e⟩:=h.cl d;rw[He h b]at h0;exact⟨j,c,ss,rfl,b,Cm h0⟩
theorem xF (h:GA A){k:Int}{xs:List Int}(hd:Qx A k xs=0->∀x∈xs,¬gK A k.toNat x):Ob A (Zl A k xs)/\(Zl A k xs).cM=A.cM ∧
 (Qx A k xs=0->∀j y,fF (Zl A k xs) j y↔fF A j y/\¬(j=k.toNat/\y∈xs))/\(Qx A k xs≠0->Zl A k xs=A):=by
 by_cases h0:Qx A k xs=0
 ·obtain⟨j,c,g,rfl,e,z⟩:=G2 h h0;obtain⟨w,D,u⟩:=C6 xs (h.cD j c g e) z;have p:=h.kh e w D λt s x a=>(u x).2 ⟨h.ln j c g t e s x a,λC=>hd h0 x C ⟨t,by rw[dC];exact s,a⟩⟩;have d:=Uo e (xs.foldl (eW c) g);have r:Zl A (j:Int) xs=swp {A with cD:=A.cD.set j (xs.foldl (eW c) g)} j c (xs.foldl (eW c) g):=by
   unfold Zl swp;rw[zC h0,dC,e.1,e.2];simp only[mR]
  have b:=p.pz d;rw[r];refine⟨⟨p.swp d,(Kp.aF rfl rfl rfl rfl:Kp A {A with cD:=A.cD.set j (xs.foldl (eW c) g)}).trans (p.yf d),b.runs⟩,b.cM,λ_ i y=>?_,λB=>(B h0).elim⟩;rw[p.xA d,vF e,u,dC];by_cases hij:i=j
  ·subst hij;rw[KH e];constructor
   ·rintro(⟨_,a,hy⟩|⟨a,_⟩)
    ·exact⟨a,λm=>hy m.2⟩
    ·exact(a rfl).elim
   ·rintro⟨a,hy⟩;exact .inl ⟨rfl,a,λm=>hy ⟨rfl,m⟩⟩
  ·constructor
   ·rintro(⟨a,_⟩|⟨_,a⟩)
    ·exact(hij a).elim
    ·exact⟨a,λm=>hij m.1⟩
   ·rintro⟨a,_⟩;exact .inr ⟨hij,a⟩
 ·have r:Zl A k xs=A:=by unfold Zl;rw[zB h0]
  rw[r];exact⟨⟨h,Kp.refl A,rfl⟩,rfl,λa=>(h0 a).elim,λ_=>rfl⟩
theorem GA.jv (h:GA A){k:Nat}{t':fX}(h1:t'.bs.flatten.Nodup)(h2:∀x∈t'.bs.flatten,fF A k x)(h3:∀c,A.tb[k]?=some c->∀xs∈t'.bs,xs.length=c.batch):GA {A with cM:=A.cM.set k t'}:=by
 have get:∀{j t},(A.cM.set k t')[j]?=some t->(j=k/\t=t')\/(j≠k/\A.cM[j]?=some t):=by
  intro j t a;by_cases hjk:j=k
  ·subst hjk;have e:j<A.cM.length:=by have:=(cX.1 a).1;simpa using this
   rw[zJ e]at a;exact .inl ⟨rfl,(Option.some.inj a).symm⟩
  ·rw[ze (Ne.symm hjk)]at a;exact .inr ⟨hjk,a⟩
 refine⟨h.pg.same rfl rfl rfl rfl,h.tb,h.lc,by simp[h.lt],h.cD,h.one,h.ow,h.ju,h.qa,h.gC,h.jO,λj t a=>?_,λj c g t b a x d=>?_,λj c t b a=>?_⟩
 ·rcases get a with⟨rfl,rfl⟩|⟨_,a⟩
  ·exact h1
  ·exact h.ot j t a
 ·rcases get a with⟨rfl,rfl⟩|⟨_,a⟩
  ·exact(KH b).1 (h2 x d)
  ·exact h.ln j c g t b a x d
 ·rcases get a with⟨rfl,rfl⟩|⟨_,a⟩
  ·exact h3 c b
  ·exact h.oc j c t b a
theorem vj {t':fX}{j:Nat}{x:Int}(hk:k<A.cM.length):gK {A with cM:=A.cM.set k t'} j x↔(j=k/\x∈t'.bs.flatten)\/(j≠k/\gK A j x):=by
 by_cases hjk:j=k
 ·subst hjk;have a:(A.cM.set j t')[j]?=some t':=zJ hk;constructor
  ·rintro⟨t,e,hx⟩;have e:(A.cM.set j t')[j]?=some t:=e;rw[a]at e;cases e;exact .inl ⟨rfl,hx⟩
  ·rintro(⟨_,hx⟩|⟨hx,_⟩)
   ·exact⟨_,a,hx⟩
   ·exact(hx rfl).elim
 ·have a:(A.cM.set k t')[j]?=A.cM[j]? := ze (Ne.symm hjk);constructor
  ·rintro⟨t,e,hx⟩;have e:(A.cM.set k t')[j]?=some t:=e;rw[a]at e;exact .inr ⟨hjk,t,e,hx⟩
  ·rintro(⟨hx,_⟩|⟨_,t,e,hx⟩)
   ·exact(hjk hx).elim
   ·exact⟨t,a.trans e,hx⟩
theorem Hj {t:fX}(ht:A.cM[k]?=some t){x:Int}:gK A k x↔x∈t.bs.flatten:=by
 constructor
 ·rintro⟨t',e,hx⟩;rw[ht]at e;cases e;exact hx
 ·intro hx;exact⟨t,ht,hx⟩
theorem Dx (h:GA A)(k:Int):Ob A (Zo A k)/\(∀j y,fF (Zo A k) j y↔fF A j y)/\(∀x∈Yg A k,gK A k.toNat x)/\(Yg A k).Nodup/\(Yg A k≠[]->∃j:Nat,k=j/\j<A.tb.length) ∧
 ∀j y,gK (Zo A k) j y↔gK A j y/\¬(j=k.toNat/\y∈Yg A k):=by
 by_cases h0:ZP A k=0
 ·have r:A.ck k=true:=by
   unfold ZP at h0;split at h0
   ·assumption
   ·cases h0
  obtain⟨j,rfl,z⟩:=UE.1 r;obtain⟨c,F,t,E,m⟩:=h.cl z;have hne:t.bs≠[]:=by
   intro e;unfold ZP at h0;rw[r,zC rfl,dC,m]at h0;simp[e]at h0
  have w:Zo A (j:Int) = {A with cM:=A.cM.set j t.rem}:=by unfold Zo;rw[zC h0,dC,Kx m]
  have B:Yg A (j:Int)=t.bs.getLast?.getD []:=by unfold Yg;rw[zC h0,dC,m]
  have D:t.bs=t.bs.dropLast++[t.bs.getLast hne]:=(List.dropLast_concat_getLast hne).symm;have G:Yg A (j:Int)=t.bs.getLast hne:=by rw[B,List.getLast?_eq_some_getLast hne];rfl
  have d:t.bs.flatten=t.bs.dropLast.flatten++t.bs.getLast hne:=by
   conv=>lhs;rw[D]
   simp
  have s:=h.ot j t m;rw[d]at s;have b:=nL.1 s;have g:t.rem.bs=t.bs.dropLast:=rfl;rw[w,G];refine⟨⟨h.jv (by rw[g];exact b.1) (λx a=>(KH E).2 (h.ln j c F t E m x (by rw[d];exact kv _ a))) λJ u H C=>h.oc j J t u m H ((List.dropLast_sublist _).subset C),Kp.aF rfl rfl rfl rfl,rfl⟩,λ_ _=>Iff.rfl,λx a=>?_,b.2.1,λ_=>⟨j,rfl,z⟩,λi y=>?_⟩
  ·rw[dC,Hj m,d];exact mU _ a
  ·rw[vj (by rw[h.lt];exact z),g,dC];by_cases hij:i=j
   ·subst hij;rw[Hj m,d,zL];constructor
    ·rintro(⟨_,a⟩|⟨a,_⟩)
     ·exact⟨.inl a,λp=>b.2.2 y a y p.2 rfl⟩
     ·exact(a rfl).elim
    ·rintro⟨a|a,p⟩
     ·exact .inl ⟨rfl,a⟩
     ·exact(p ⟨rfl,a⟩).elim
   ·constructor
    ·rintro(⟨a,_⟩|⟨_,a⟩)
     ·exact(hij a).elim
     ·exact⟨a,λp=>hij p.1⟩
    ·rintro⟨a,_⟩;exact .inr ⟨hij,a⟩
 ·have w:Zo A k=A:=by unfold Zo;rw[zB h0]
  have B:Yg A k=[]:=by unfold Yg;rw[zB h0]
  rw[w,B];exact⟨⟨h,Kp.refl A,rfl⟩,λ_ _=>Iff.rfl,by simp,qG,by simp,by simp⟩
theorem JJ (h:GA A)(k:Int){xs:List Int}(hn:xs.Nodup)(hd:∀x∈xs,¬gK A k.toNat x):Ob A (QL A k xs)/\(∀j y,fF (QL A k xs) j y↔fF A j y) ∧
 (KE A k xs=true->(∃j:Nat,k=j/\j<A.tb.length)/\(∀x∈xs,fF A k.toNat x)/\∀j y,gK (QL A k xs) j y↔gK A j y\/(j=k.toNat/\y∈xs))/\(KE A k xs=false->QL A k xs=A):=by
 by_cases h0:KE A k xs=true
 ·have C:UB A k xs=0:=by
   unfold KE at h0;simp only[zE,zS]at h0;exact h0.1
  have w:A.ck k=true:=by
   unfold UB at C;split at C
   ·assumption
   ·cases C
  obtain⟨j,rfl,D⟩:=UE.1 w;obtain⟨c,F,t,s,u⟩:=h.cl D;have g:=C;unfold UB at g;rw[w,zC rfl,dC,s.1,s.2]at g;simp only at g;have p:xs.length=c.batch:=by
   apply Classical.byContradiction;intro d;rw[zB d]at g;cases g
  rw[zC p]at g;have z:∀x∈xs,fF A j x:=by
   intro x d;split at g
   ·rename_i B;rw[zr]at B;rw[KH s];simpa[Tk]using B x d
   ·cases g
  have E:QL A (j:Int) xs = {A with cM:=A.cM.set j {t with bs:=t.bs++[xs]}}:=by unfold QL;rw[zC h0,dC,Kx u]
  have r:(t.bs++[xs]).flatten=t.bs.flatten++xs:=by simp
  rw[E];refine⟨⟨h.jv ?_ ?_ ?_,Kp.aF rfl rfl rfl rfl,rfl⟩,λ_ _=>Iff.rfl,λ_=>⟨⟨j,rfl,D⟩,by rw[dC];exact z,λi y=>?_⟩,λH=>by rw[H]at h0;cases h0⟩
  ·show(t.bs++[xs]).flatten.Nodup;rw[r,nL];exact⟨h.ot j t u,hn,λa B b G e=>hd b G (by subst e;rw[dC,Hj u];exact B)⟩
  ·intro x d;have d:x∈(t.bs++[xs]).flatten:=d;rw[r,zL]at d;rcases d with d|d
   ·exact(KH s).2 (h.ln j c F t s u x d)
   ·exact z x d
  ·intro c' hc' ys m;have m:ys∈t.bs++[xs]:=m;rcases zL.1 m with m|m
   ·exact h.oc j c' t hc' u ys m
   ·simp only[zR]at m;rw[s.1]at hc';cases hc';rw[m];exact p
  ·rw[vj (by rw[h.lt];exact D),dC];show(i=j/\y∈(t.bs++[xs]).flatten)\/_↔_;rw[r,zL];by_cases hij:i=j
   ·subst hij;rw[Hj u];constructor
    ·rintro(⟨_,d|d⟩|⟨d,_⟩)
     ·exact .inl d
     ·exact .inr ⟨rfl,d⟩
     ·exact(d rfl).elim
    ·rintro(d|⟨_,d⟩)
     ·exact .inl ⟨rfl,.inl d⟩
     ·exact .inl ⟨rfl,.inr d⟩
   ·constructor
    ·rintro(⟨d,_⟩|⟨_,d⟩)
     ·exact(hij d).elim
     ·exact .inl d
    ·rintro(d|⟨d,_⟩)
     ·exact .inr ⟨hij,d⟩
     ·exact(hij d).elim
 ·have E:QL A k xs=A:=by unfold QL;rw[zB h0]
  rw[E];exact⟨⟨h,Kp.refl A,rfl⟩,λ_ _=>Iff.rfl,λd=>(h0 d).elim,λ_=>rfl⟩
end Go.Ar
namespace Go.Ar
open Go.Bu (Y4 Ql YW oh KG dA take QV Kf Bounded full can Yj V2 Zn Qp Zx QZ Qr ZT Vn Us kz)
variable {A:AR}{sp:Sp}{k:Nat}{c:bZ}{ss:List cF}
structure Ow (A:AR) (sp:Sp):Prop where
 l:sp.st.length=A.n
 own:∀p,A.f p≠0->gf sp.st p≠0
 cl:∀p,A.f p=3->gf sp.st p=1
 le:∀p,gf sp.st p<=2
structure St (A B:AR) (sp sp':Sp):Prop where
 ga:GA B
 ow:Ow B sp'
 n:B.n=A.n
 tb:B.tb=A.tb
 room:B.room=A.room
 same:∀p,A.f p=0->B.f p=0->gf sp'.st p=gf sp.st p
 gone:∀p,A.f p≠0->B.f p=0->gf sp'.st p=0
 new:∀p,A.f p=0->B.f p≠0->gf sp.st p=0/\16<=p
theorem St.refl (h:GA A)(hw:Ow A sp):St A A sp sp:=⟨h,hw,rfl,rfl,rfl,λ_ _ _=>rfl,λp a b=>(a b).elim,λp a b=>(b a).elim⟩
theorem Ow.len {B C:AR}{sp sp':Sp}(h:Ow B sp)(k:Ow C sp')(e:C.n=B.n):sp'.st.length=sp.st.length:=by rw[h.l,k.l,e]
theorem St.trans {B C:AR}{sp' sp'':Sp}(h:St A B sp sp')(k:St B C sp' sp''):St A C sp sp'':=by
 refine⟨k.ga,k.ow,k.n.trans h.n,k.tb.trans h.tb,k.room.trans h.room,λp a b=>?_,λp a b=>?_,λp a b=>?_⟩
 ·by_cases hB:B.f p=0
  ·rw[k.same p hB b,h.same p a hB]
  ·rw[k.gone p hB b,(h.new p a hB).1]
 ·by_cases hB:B.f p=0
  ·rw[k.same p hB b,h.gone p a hB]
  ·exact k.gone p hB b
 ·by_cases hB:B.f p=0
  ·have:=k.new p hB b;rw[h.same p a hB]at this;exact this
  ·exact h.new p a hB
theorem Ow.kp {B:AR}(hw:Ow A sp)(h:Kp A B):Ow B sp:=⟨hw.l.trans h.n.symm,λp a=>hw.own p λe=>a ((h.z p).2 e),λp a=>hw.cl p (h.t p a),hw.le⟩
theorem St.kp {B:AR}(hg:GA B)(hw:Ow A sp)(h:Kp A B):St A B sp sp:=
 ⟨hg,hw.kp h,h.n,h.tb,h.room,λ_ _ _=>rfl,λp a b=>(a ((h.z p).1 b)).elim,λp a b=>(b ((h.z p).2 a)).elim⟩
theorem Ob.st {B:AR}(o:Ob A B)(hw:Ow A sp):St A B sp sp:=St.kp o.ga hw o.kp
theorem GA.grown (h:GA A){B:AR}{sp':Sp}{s size:Nat}(g:Grown A B sp sp' s size):GA B:=by
 have e:∀{j d tt},Cl B j d tt↔Cl A j d tt:=λ{j d tt}=>by unfold Cl;rw[g.tb,g.cD]
 exact⟨g.pg,by rw[g.tb];exact h.tb,by rw[g.cD,g.tb];exact h.lc,by rw[g.cM,g.tb];exact h.lt,λj d tt a=>h.cD j d tt (e.1 a),λj d tt a=>h.one j d tt (e.1 a),λj d tt a p=>by rw[g.ow];exact h.ow j d tt (e.1 a) p,
  λp=>by rw[g.ow,g.runs];exact h.ju p,λp=>by rw[g.ow,g.tb];exact h.qa p,by rw[g.runs];exact h.gC,by rw[g.runs];exact h.jO,by rw[g.cM];exact h.ot,λj d tt t a b=>h.ln j d tt t (e.1 a) (by rw[←g.cM];exact b),by rw[g.tb,g.cM];exact h.oc⟩
theorem Grown.st (h:GA A)(hw:Ow A sp){B:AR}{sp':Sp}{s size:Nat}(g:Grown A B sp sp' s size):St A B sp sp':=by
 have d:∀p,B.f p≠A.f p->s<=p/\p<s+size:=λp b=>by
  apply Classical.byContradiction;intro hn;exact b (g.o p hn).1
 refine⟨h.grown g,⟨g.l.trans (hw.l.trans g.n.symm),λp b=>?_,λp b=>?_,λp=>?_⟩,g.n,g.tb,g.room,λp j e=>?_,λp j e=>?_,λp j e=>?_⟩
 ·by_cases a:s<=p/\p<s+size
  ·rw[(g.i p a.1 a.2).2];omega
  ·rw[(g.o p a).2];rw[(g.o p a).1]at b;exact hw.own p b
 ·by_cases a:s<=p/\p<s+size
  ·rw[(g.i p a.1 a.2).2]
  ·rw[(g.o p a).2];rw[(g.o p a).1]at b;exact hw.cl p b
 ·by_cases a:s<=p/\p<s+size
  ·rw[(g.i p a.1 a.2).2];omega
  ·rw[(g.o p a).2];exact hw.le p
 ·refine(g.o p λa=>?_).2;rw[(g.i p a.1 a.2).1]at e;omega
 ·have:=d p O;rw[(g.i p this.1 this.2).1]at e;omega
 ·have:=d p O;exact⟨g.un p this.1 this.2,by have:=g.s1;omega⟩
theorem JN {n:Nat}{S:Nat->Bool}(hb:Bounded S n)(hn:n<=1024){j q m a:Nat}(hf:full S j q=true)(hm:m<=2^j)(ha:a<=2^j):YW n S m a≠none:=by
 intro h0;have s:S (q*2^j)=true:=Yj.1 hf _ (Ac _ (ka j));obtain⟨i,g⟩:=V2 hb s;have e:j<=i:=by
  apply Classical.byContradiction;intro hlt;exact Qp g hf rfl (Ac _ (ka j)) O
 have r:=Zx hb (Zn.1 g).1;have d:i<11:=by
  apply Classical.byContradiction;intro hge;have:2^11<=2^i:=nZ O O;omega
 have p:2^j<=2^i:=nZ O e;have:=Us h0 i d O O;have b:=(Qr hb (k:=i)).2 ⟨_,rfl,g⟩;rw[this]at b;simp at b
theorem Gk (m:Nat):QG m=16\/QG m=32\/QG m=64:=by
 unfold QG;split
 ·exact .inl rfl
 ·split
  ·exact .inr (.inl rfl)
  ·exact .inr (.inr rfl)
theorem Ir {m:Nat}(h:m<=64):m<=QG m:=by
 unfold QG;split
 ·omega
 ·split<;>omega
theorem B9 (h:GA A)(hw:Ow A sp){m a no:Nat}(h1:1<=m)(h2:m<=64)(ha:1<=a/\a<=16) :
 (cV A sp m a no=(none,A,sp)/\YW A.n A.S m a=none/\cU sp (QG (max m a))=none) ∨
 ∃x A1 sp1,cV A sp m a no=(some x,dN A1 x m no,sp1)/\YW A1.n A1.S m a=some x/\(A1=A/\sp1=sp\/YW A.n A.S m a=none/\∃s,cU sp (QG (max m a))=some s/\Grown A A1 sp sp1 s (QG (max m a))):=by
 cases ht:YW A.n A.S m a with
 | some x=>exact .inr ⟨x,A,sp,by unfold cV;rw[ht],ht,.inl ⟨rfl,rfl⟩⟩
 | none=>
  cases hg:Ud A sp (QG (max m a))with
  | none=>
   refine .inl ⟨by unfold cV;rw[ht,hg],rfl,?_⟩;unfold Ud at hg;split at hg
   ·assumption
   ·cases hg
  | some r=>
   obtain⟨A1,sp1⟩:=r;obtain⟨s,u,g⟩:=JU h.pg hw.l (λp b=>Classical.byContradiction λz=>hw.own p z b) (Gk _) hg;have d:YW A1.n A1.S m a≠none:=by
    have y:=Ir (m:=max m a) O;obtain⟨_,_,⟨i,B⟩,_⟩:=Uf (by have:=Gk (max m a);omega) u;have key:∃j,QG (max m a)=2^j:=by
     rcases Gk (max m a)with e|e|e
     ·exact⟨4,e⟩
     ·exact⟨5,e⟩
     ·exact⟨6,e⟩
    obtain⟨j,C⟩:=key;refine JN g.pg.iZ g.pg.n2 (j:=j) (q:=i) (Yj.2 λp b=>?_) O O;rw[g.pg.fr];rw[ZT,←C,←B]at b;rw[(g.i p b.1 b.2).1];omega
   obtain⟨x,w⟩:=Option.ne_none_iff_exists'.1 d;exact .inr ⟨x,A1,sp1,by unfold cV;rw[ht,hg];simp only;rw[w],w,.inr ⟨rfl,s,u,g⟩⟩
theorem Bv (h:PG A){m a x:Nat}(hx:YW A.n A.S m a=some x):∀p,x<=p->p<x+m->A.S p=true:=λp b d=>(kz h.iZ hx).2 p b d
theorem OK (h:PG A){m a x:Nat}(h1:1<=m)(h4:m<=4)(hx:YW A.n A.S m a=some x):x/16=(x+m-1)/16:=by
 obtain⟨j,_,b,_,d,_⟩:=Vn hx;obtain⟨q,rfl,g⟩:=(Qr h.iZ).1 (List.mem_of_head? d)
 match j,b with
 | 0,b=>
  have:m=1:=by omega
  subst this;rfl
 | 1,b=>
  have:m<=2:=by omega
  simp only[Nat.pow_one]at *;omega
 | j+2,b=>
  have e:2^(j+2)=4*2^j:=by rw[Nat.pow_add];omega
  rw[e,←uK,Nat.mul_comm q 4,uK];generalize q*2^j=z;omega
theorem Eg (h:PG A){a m no:Nat}(h1:1<=m)(hn:no≠0)(hS:∀p,a<=p->p<a+m->A.S p=true):Kp A (dN A a m no):=by
 obtain⟨o,g,d,e⟩:=yx h h1 hn hS;refine⟨rfl,rfl,rfl,e,λp b=>?_⟩;by_cases hin:a<=p/\p<a+m
 ·rw[(g p hin.1 hin.2).1]at b;omega
 ·rw[o.f p hin]at b;exact b
theorem GA.pd (h:GA A)(hk:Cl A k c ss){x:Nat}(hS:∀p,x<=p->p<x+c.aF->A.S p=true)(h1:x/16=(x+c.aF-1)/16) :
 GA {dN A x c.aF (k+1)with cD:=(dN A x c.aF (k+1)).cD.set k (gU c ss x)}/\(∀s∈ss,s.st+c.aF<=x\/x+c.aF<=s.st):=by
 have i:=h.cD k c ss hk;have u:=i.pg;have E:=hk.lt;have D:=h.tb;obtain⟨o,m,pg,F⟩:=yx h.pg u (no:=k+1) O hS;have r:∀p,x<=p->p<x+c.aF->A.ow p=0:=λp z B=>by
  have C:=(h.pg.fr p).1 (hS p z B);apply Classical.byContradiction;intro hne;have:=(h.pg.us p).2 hne;omega
 have hd:∀s∈ss,s.st+c.aF<=x\/x+c.aF<=s.st:=λs b=>by
  apply Classical.byContradiction;intro hn;have C:=r (max x s.st) O O;have:=(h.used hk b (p:=max x s.st) O O).2;omega
 refine⟨?_,hd⟩;have e:Cl (dN A x c.aF (k+1)) k c ss:=hk;refine⟨pg.same rfl rfl rfl rfl,h.tb,by show(A.cD.set k _).length=_;simp[h.lc];rfl,h.lt,λj d g a=>?_,λj d g a s b=>?_,λj d g a p=>?_,λp=>?_,λp=>?_,h.gC,h.jO,h.ot,λj d g t a w=>?_,h.oc⟩
 ·rcases VQ e a with⟨rfl,rfl,rfl⟩|⟨hne,a⟩
  ·exact DA i hd
  ·exact h.cD j d g a
 ·rcases VQ e a with⟨rfl,rfl,rfl⟩|⟨hne,a⟩
  ·rcases KQ.1 b with rfl|b
   ·exact h1
   ·exact h.one _ _ _ hk s b
  ·exact h.one j d g a s b
 ·show(dN A x c.aF (k+1)).ow p=j+1↔_;by_cases hp:x<=p/\p<x+c.aF
  ·rw[(m p hp.1 hp.2).2];rcases VQ e a with⟨rfl,rfl,rfl⟩|⟨hne,a⟩
   ·exact⟨λ_=>⟨_,KQ.2 (.inl rfl),hp.1,hp.2⟩,λ_=>rfl⟩
   ·rw[←h.ow j d g a p,r p hp.1 hp.2];omega
  ·rw[o.ow p hp];rcases VQ e a with⟨rfl,rfl,rfl⟩|⟨hne,a⟩
   ·rw[h.ow _ _ _ hk p];constructor
    ·rintro⟨s,b,h3⟩;exact⟨s,KQ.2 (.inr b),h3⟩
    ·rintro⟨s,b,h3⟩;rcases KQ.1 b with rfl|b
     ·exact(hp h3).elim
     ·exact⟨s,b,h3⟩
   ·exact h.ow j d g a p
 ·show(dN A x c.aF (k+1)).ow p=41↔lG A.runs p;by_cases hp:x<=p/\p<x+c.aF
  ·rw[(m p hp.1 hp.2).2,←h.ju,r p hp.1 hp.2];omega
  ·rw[o.ow p hp];exact h.ju p
 ·show(dN A x c.aF (k+1)).ow p=41\/(dN A x c.aF (k+1)).ow p<=A.tb.length;by_cases hp:x<=p/\p<x+c.aF
  ·rw[(m p hp.1 hp.2).2];omega
  ·rw[o.ow p hp];exact h.qa p
 ·rcases VQ e a with⟨rfl,rfl,rfl⟩|⟨hne,a⟩
  ·intro y hy;exact(CT i hd).2 (h.ln _ _ _ t hk w y hy)
  ·exact h.ln j d g t a w
theorem GA.qP (h:GA A){x m:Nat}(hm:1<=m)(hS:∀p,x<=p->p<x+m->A.S p=true):GA {dN A x m 41 with runs:=A.runs++[(x,m)]}:=by
 have z:=h.tb;obtain⟨o,e,pg,B⟩:=yx h.pg hm (no:=41) O hS;have i:∀p,x<=p->p<x+m->A.ow p=0:=λp u w=>by
  have y:=(h.pg.fr p).1 (hS p u w);apply Classical.byContradiction;intro hne;have:=(h.pg.us p).2 hne;omega
 refine⟨pg.same rfl rfl rfl rfl,h.tb,h.lc,h.lt,h.cD,h.one,λj d tt b p=>?_,λp=>?_,λp=>?_,λr a=>?_,?_,h.ot,h.ln,h.oc⟩
 ·have b:Cl A j d tt:=b;have:=b.lt;show(dN A x m 41).ow p=j+1↔_;by_cases hp:x<=p/\p<x+m
  ·rw[(e p hp.1 hp.2).2,←h.ow j d tt b p,i p hp.1 hp.2];omega
  ·rw[o.ow p hp];exact h.ow j d tt b p
 ·show(dN A x m 41).ow p=41↔lG (A.runs++[(x,m)]) p;by_cases hp:x<=p/\p<x+m
  ·rw[(e p hp.1 hp.2).2];exact⟨λ_=>⟨(x,m),by simp,hp⟩,λ_=>rfl⟩
  ·rw[o.ow p hp,h.ju];constructor
   ·rintro⟨r,a,h3⟩;exact⟨r,by simp[a],h3⟩
   ·rintro⟨r,a,h3⟩;rcases zL.1 a with a|a
    ·exact⟨r,a,h3⟩
    ·simp only[zR]at a;subst a;exact(hp h3).elim
 ·show(dN A x m 41).ow p=41\/(dN A x m 41).ow p<=A.tb.length;by_cases hp:x<=p/\p<x+m
  ·rw[(e p hp.1 hp.2).2];omega
  ·rw[o.ow p hp];exact h.qa p
 ·rcases zL.1 a with a|a
  ·exact h.gC r a
  ·simp only[zR]at a;subst a;exact hm
 ·refine oE.2 ⟨h.jO,by simp,λr a s g=>?_⟩;simp only[zR]at g;subst g;apply Classical.byContradiction;intro hn;simp only at hn;have:=h.gC r a;have y:=i (max x r.1) O O;have:=(h.jc a (p:=max x r.1) O O).2;omega
theorem N6 {l:List (Nat×Nat)}{x m:Nat}(h:∀r∈l,r.1≠x):cA.mset2 l x m=l++[(x,m)]:=by
 unfold cA.mset2;rw[zB];simp only[jU,zV,not_exists,not_and];exact h
theorem Gb (h:GA A)(hw:Ow A sp)(k:Int) :
 ((cL A sp k=(A,sp))/\Ks A sp k≠0) ∨
 ∃(j:Nat) (c:bZ) (ss:List cF) (x:Nat) (A1:AR) (sp1:Sp),k=j/\Cl A j c ss/\Cl A1 j c ss/\Ks A sp k=0/\cL A sp k=({dN A1 x c.aF (j+1)with cD:=(dN A1 x c.aF (j+1)).cD.set j (gU c ss x)},sp1) ∧
  St A A1 sp sp1/\A1.runs=A.runs/\A1.cM=A.cM/\A1.cD=A.cD/\YW A1.n A1.S c.aF 1=some x/\(∀s∈ss,s.st+c.aF<=x\/x+c.aF<=s.st)/\St A (cL A sp k).1 sp (cL A sp k).2:=by
 by_cases hck:A.ck k=true
 ·obtain⟨j,rfl,G⟩:=UE.1 hck;obtain⟨c,ss,t,b,H⟩:=h.cl G;have C:=h.cD j c ss b;have y:=C.ok;unfold bZ.ok at y;have E:=b.lt;rcases B9 h hw (m:=c.aF) (a:=1) (no:=j+1) O O O with⟨hg,_⟩|⟨x,A1,sp1,hg,htk,hor⟩
  ·left;have w:Ks A sp (j:Int)=6:=by unfold Ks;rw[hck,zC rfl,dC,b.1,b.2];simp only;rw[hg]
   have F:cL A sp (j:Int)=(A,sp):=by unfold cL;rw[hck,zC rfl,dC,b.1,b.2];simp only;rw[hg]
   rw[F,w];exact⟨rfl,by simp⟩
  ·right;have w:Ks A sp (j:Int)=HC c ss x:=by unfold Ks;rw[hck,zC rfl,dC,b.1,b.2];simp only;rw[hg]
   have u:GA A1:=by
    rcases hor with⟨rfl,rfl⟩|⟨_,s,_,g⟩
    ·exact h
    ·exact h.grown g
   have e:St A A1 sp sp1:=by
    rcases hor with⟨rfl,rfl⟩|⟨_,s,_,g⟩
    ·exact St.refl h hw
    ·exact g.st h hw
   have d:A1.runs=A.runs/\A1.cM=A.cM/\A1.cD=A.cD:=by
    rcases hor with⟨rfl,rfl⟩|⟨_,s,_,g⟩
    ·exact⟨rfl,rfl,rfl⟩
    ·exact⟨g.runs,g.cM,g.cD⟩
   have p:Cl A1 j c ss:=⟨by rw[e.tb];exact b.1,by rw[d.2.2];exact b.2⟩;have B:=Bv u.pg htk;obtain⟨D,hd⟩:=u.pd p B (OK u.pg O O htk);have z:=LJ hd;have r:cL A sp (j:Int)=({dN A1 x c.aF (j+1)with cD:=(dN A1 x c.aF (j+1)).cD.set j (gU c ss x)},sp1):=by
    unfold cL;rw[hck,zC rfl,dC,b.1,b.2];simp only;rw[hg];simp only;rw[zC z]
   refine⟨j,c,ss,x,A1,sp1,rfl,b,p,by rw[w];exact z,r,e,d.1,d.2.1,d.2.2,htk,hd,?_⟩;rw[r];have kp:=Eg u.pg (no:=j+1) O O B;exact e.trans (St.kp D e.ow (kp.trans (Kp.aF rfl rfl rfl rfl)))
 ·left;have i:A.ck k=false:=by simpa using hck
  unfold cL Ks;rw[i];exact⟨rfl,by simp⟩
theorem IH (h:GA A)(hw:Ow A sp)(k:Int):St A (cL A sp k).1 sp (cL A sp k).2/\(cL A sp k).1.runs=A.runs/\(cL A sp k).1.cM=A.cM/\(∀j y,fF (cL A sp k).1 j y↔fF A j y)/\(Ks A sp k≠0->cL A sp k=(A,sp)):=by
 rcases Gb h hw k with⟨e,_⟩|⟨j,c,ss,x,A1,sp1,rfl,hk,hk1,hE,e,hst,r1,r2,r3,_,hd,hS⟩
 ·rw[e];exact⟨St.refl h hw,rfl,rfl,λ_ _=>Iff.rfl,λ_=>rfl⟩
 ·refine⟨hS,by rw[e];exact r1,by rw[e];exact r2,λi y=>?_,λd=>(d hE).elim⟩;rw[e];have b:Cl (dN A1 x c.aF (j+1)) j c ss:=hk1;rw[vF b,CT (h.cD j c ss hk) hd];have e2:fF (dN A1 x c.aF (j+1)) i y↔fF A i y:=by
   have:(dN A1 x c.aF (j+1)).tb=A.tb/\(dN A1 x c.aF (j+1)).cD=A.cD:=⟨hst.tb,r3⟩;unfold fF Cl;rw[this.1,this.2]
  rw[e2];by_cases hij:i=j
  ·subst hij;rw[KH hk];exact⟨λa=>by rcases a with⟨_,a⟩|⟨a,_⟩;exact a;exact(a rfl).elim,λa=>.inl ⟨rfl,a⟩⟩
  ·exact⟨λa=>by rcases a with⟨a,_⟩|⟨_,a⟩;exact(hij a).elim;exact a,λa=>.inr ⟨hij,a⟩⟩
theorem MC {m a:Int}(h:QR m a=true):∃x y:Nat,m=x/\a=y/\1<=x/\x<=64/\(y=1\/y=2\/y=4\/y=8\/y=16):=by
 unfold QR at h;simp only[zE,zS,mP,zV]at h;exact⟨m.toNat,a.toNat,O,O,O,O,O⟩
theorem OA (h:GA A)(hw:Ow A sp)(m a:Int) :
 (cA A sp m a=(A,sp)/\Qd A sp m a≠0/\(QR m a=true->Qd A sp m a=6/\YW A.n A.S m.toNat a.toNat=none/\cU sp (QG (max m.toNat a.toNat))=none)) ∨
 ∃(x:Nat) (A1:AR) (sp1:Sp),QR m a=true/\Qd A sp m a=0/\ZO A sp m a=x/\cA A sp m a=({dN A1 x m.toNat 41 with runs:=A.runs++[(x,m.toNat)]},sp1) ∧
  YW A1.n A1.S m.toNat a.toNat=some x/\(A1=A/\sp1=sp\/YW A.n A.S m.toNat a.toNat=none/\∃s,cU sp (QG (max m.toNat a.toNat))=some s/\Grown A A1 sp sp1 s (QG (max m.toNat a.toNat))) ∧
  St A (cA A sp m a).1 sp (cA A sp m a).2/\(cA A sp m a).1.cM=A.cM/\(∀j y,fF (cA A sp m a).1 j y↔fF A j y):=by
 by_cases hp:QR m a=true
 ·obtain⟨b,w,rfl,rfl,L,J,Q⟩:=MC hp;have F:Qd A sp (b:Int) (w:Int)=if(cV A sp b w 41).1.isSome then 0 else 6:=by unfold Qd;rw[zC hp,dC,dC]
  have K:ZO A sp (b:Int) (w:Int)=(cV A sp b w 41).1.getD 0:=by unfold ZO;rw[zC hp,dC,dC]
  rcases B9 h hw (m:=b) (a:=w) (no:=41) L J O with⟨hg,hn1,hn2⟩|⟨x,A1,sp1,hg,htk,hor⟩
  ·left;have N:cA A sp (b:Int) (w:Int)=(A,sp):=by unfold cA;rw[zC hp,dC,dC,hg]
   rw[N,F,hg,dC,dC];exact⟨rfl,by simp,λ_=>⟨rfl,hn1,hn2⟩⟩
  ·right;have z:GA A1:=by
    rcases hor with⟨rfl,rfl⟩|⟨_,s,_,g⟩
    ·exact h
    ·exact h.grown g
   have u:St A A1 sp sp1:=by
    rcases hor with⟨rfl,rfl⟩|⟨_,s,_,g⟩
    ·exact St.refl h hw
    ·exact g.st h hw
   have d:A1.runs=A.runs/\A1.cM=A.cM/\A1.cD=A.cD:=by
    rcases hor with⟨rfl,rfl⟩|⟨_,s,_,g⟩
    ·exact⟨rfl,rfl,rfl⟩
    ·exact⟨g.runs,g.cM,g.cD⟩
   have D:=Bv z.pg htk;have B:∀r∈A.runs,r.1≠x:=λr M e=>by
    have C:r∈A1.runs:=by rw[d.1];exact M
    have:=z.gC r C;have P:=(z.jc C (p:=x) O O).1;have R:=(z.pg.fr x).1 (D x O O);omega
   have i:cA A sp (b:Int) (w:Int)=({dN A1 x b 41 with runs:=A.runs++[(x,b)]},sp1):=by
    unfold cA;rw[zC hp,dC,dC,hg];show({dN A1 x b 41 with runs:=cA.mset2 A1.runs x b},sp1)=_;rw[d.1,N6 B]
   have G:=z.qP O D;rw[d.1]at G;have kp:=Eg z.pg (no:=41) O O D;refine⟨x,A1,sp1,hp,by rw[F,hg];rfl,by rw[K,hg];rfl,by rw[dC];exact i,by rw[dC,dC];exact htk,by rw[dC,dC];exact hor,?_,by rw[i];exact d.2.1,λj y=>?_⟩
   ·rw[i];exact u.trans (St.kp G u.ow (kp.trans (Kp.aF rfl rfl rfl rfl)))
   ·rw[i];have e1:({dN A1 x b 41 with runs:=A.runs++[(x,b)]}:AR).tb=A.tb:=u.tb;have e2:({dN A1 x b 41 with runs:=A.runs++[(x,b)]}:AR).cD=A.cD:=d.2.2;unfold fF Cl;rw[e1,e2]
 ·left;have E:QR m a=false:=by simpa using hp
  unfold cA Qd;rw[E];exact⟨rfl,by simp,λH=>by cases H⟩
theorem F9 {x:Int}{r:Nat×Nat}(h:og A x=some r):r∈A.runs/\x=(r.1:Int):=by
 unfold og at h;exact⟨rR h,by have:=rH h;simpa using Eq.symm (by simpa using this)⟩
theorem NY (h:GA A)(x:Int):(Kp A (Qi A x)/\GA (Qi A x))/\(Qi A x).cM=A.cM/\(∀j y,fF (Qi A x) j y↔fF A j y)/\(Ku A x≠0->Qi A x=A) ∧
 (Ku A x=0->∃r∈A.runs,x=(r.1:Int)/\(Qi A x).runs=A.runs.filter λq=>!(q==r)):=by
 cases hr:og A x with
 | none=>
  have e:Qi A x=A:=by unfold Qi;rw[hr]
  have F:Ku A x=8:=by unfold Ku;rw[hr];rfl
  rw[e,F];exact⟨⟨Kp.refl A,h⟩,rfl,λ_ _=>Iff.rfl,λ_=>rfl,λi=>by cases i⟩
 | some r=>
  obtain⟨b,i⟩:=F9 hr;have z:=h.gC r b;have s:A.runs.filter (λq=>!((q.1:Int)==x))=A.runs.filter λq=>!(q==r):=by
   apply wN;intro q g;have:((q.1:Int)==x)=(q==r):=by
    rw[mq];simp only[zV];constructor
    ·intro e;have H:=h.gC q g;exact h.gJ g b (x:=q.1) O O O O
    ·rintro rfl;exact i.symm
   rw[this]
  have e:Qi A x=Vo {A with runs:=A.runs.filter λq=>!(q==r)} r:=by unfold Qi;rw[hr];simp only;rw[s]
  have F:Ku A x=0:=by unfold Ku;rw[hr];rfl
  obtain⟨a,m⟩:=r;obtain⟨o,B,pg,J⟩:=BJ (A:={A with runs:=A.runs.filter λq=>!(q==(a,m))}) (h.pg.same rfl rfl rfl rfl) z (λp C E=>(h.jc b C E).1);have own:∀p,a<=p->p<a+m->A.ow p=41:=λp C E=>(h.jc b C E).2;have G:=h.tb;rw[e,F];refine⟨⟨⟨rfl,rfl,rfl,J,λp D=>?_⟩,?_⟩,rfl,λ_ _=>Iff.rfl,λi=>(i rfl).elim,λ_=>⟨_,b,i,rfl⟩⟩
  ·by_cases hin:a<=p/\p<a+m
   ·rw[(B p hin.1 hin.2).1]at D;omega
   ·rw[o.f p hin]at D;exact D
  ·refine⟨pg,h.tb,h.lc,h.lt,h.cD,h.one,λj d tt u p=>?_,λp=>?_,λp=>?_,λq g=>h.gC q (zI.1 g).1,h.jO.filter _,h.ot,h.ln,h.oc⟩
   ·have u:Cl A j d tt:=u;have:=u.lt;by_cases hin:a<=p/\p<a+m
    ·rw[(B p hin.1 hin.2).2,←h.ow j d tt u p,own p hin.1 hin.2];omega
    ·rw[o.ow p hin];exact h.ow j d tt u p
   ·show _↔lG (A.runs.filter λq=>!(q==(a,m))) p;by_cases hin:a<=p/\p<a+m
    ·rw[(B p hin.1 hin.2).2];constructor
     ·intro i;omega
     ·rintro⟨q,g,q1,q2⟩;have w:=zI.1 g;have:=h.gJ w.1 b q1 q2 hin.1 hin.2;subst this;simp at w
    ·rw[o.ow p hin];show A.ow p=41↔_;rw[h.ju];constructor
     ·rintro⟨q,g,q1⟩;refine⟨q,zI.2 ⟨g,?_⟩,q1⟩;have:q≠(a,m):=by rintro rfl;exact hin q1
      simpa using this
     ·rintro⟨q,g,q1⟩;exact⟨q,(zI.1 g).1,q1⟩
   ·by_cases hin:a<=p/\p<a+m
    ·rw[(B p hin.1 hin.2).2];omega
    ·rw[o.ow p hin];exact h.qa p
theorem Al (k:Nat):∀(outs:List (List Int)) {A:AR},GA A->outs.flatten.Nodup->(∀x∈outs.flatten,fF A k x/\¬gK A k x) →
 Ob A (outs.foldl (λA' xs=>Zl A' (k:Int) xs) A)/\(outs.foldl (λA' xs=>Zl A' (k:Int) xs) A).cM=A.cM/\∀j y,fF (outs.foldl (λA' xs=>Zl A' (k:Int) xs) A) j y↔fF A j y/\¬(j=k/\y∈outs.flatten)
 | [],A,h,_,_=>⟨⟨h,Kp.refl A,rfl⟩,rfl,by simp⟩
 | xs::outs,A,h,hn,ht=>by
  rw[uR]at hn ht;have hn':=nL.1 hn;have p:∀x∈xs,fF A k x/\¬gK A k x:=λx i=>ht x (kv _ i);rw[pO];cases xs with
  | nil=>
   have u:Zl A (k:Int) []=A\/Qx A (k:Int) []=0:=by
    by_cases w:Qx A (k:Int) []=0
    ·exact .inr w
    ·exact .inl (by unfold Zl;rw[zB w])
   obtain⟨o,e,t,_⟩:=xF h (k:=(k:Int)) (xs:=[]) (λ_=>by simp);have s:∀j y,fF (Zl A (k:Int) []) j y↔fF A j y:=λj y=>by
    rcases u with u|u
    ·rw[u]
    ·rw[t u];simp
   have m:∀j y,gK (Zl A (k:Int) []) j y↔gK A j y:=λj y=>by unfold gK;rw[e]
   obtain⟨o2,e2,z⟩:=Al k outs o.ga hn'.2.1 λx i=>by rw[s,m];exact ht x (mU _ i)
   exact⟨⟨o2.ga,o.kp.trans o2.kp,o2.runs.trans o.runs⟩,e2.trans e,λj y=>by rw[z,s];simp⟩
  | cons x0 xs=>
   obtain⟨c,C,B,_⟩:=(p x0 aA).1;have w:Qx A (k:Int) (x0::xs)=0:=by
    rw[He h B];exact Dt ⟨λx i=>(KH B).1 (p x i).1,hn'.1⟩
   obtain⟨o,e,t,_⟩:=xF h (k:=(k:Int)) (xs:=x0::xs) (λ_ x i=>by rw[dC];exact(p x i).2);have s:=t w;have m:∀j y,gK (Zl A (k:Int) (x0::xs)) j y↔gK A j y:=λj y=>by unfold gK;rw[e]
   obtain⟨o2,e2,z⟩:=Al k outs o.ga hn'.2.1 λx i=>by
    rw[s,m];have:=ht x (mU _ i);exact⟨⟨this.1,λg=>hn'.2.2 x g.2 x i rfl⟩,this.2⟩
   refine⟨⟨o2.ga,o.kp.trans o2.kp,o2.runs.trans o.runs⟩,e2.trans e,λj y=>?_⟩;rw[z,s,dC,uR,zL];constructor
   ·rintro⟨⟨a,b⟩,d⟩;refine⟨a,λ⟨r,g⟩=>?_⟩;rcases g with g|g
    ·exact b ⟨r,g⟩
    ·exact d ⟨r,g⟩
   ·rintro⟨a,b⟩;exact⟨⟨a,λ⟨r,g⟩=>b ⟨r,.inl g⟩⟩,λ⟨r,g⟩=>b ⟨r,.inr g⟩⟩
structure q8 (A B:AR):Prop where
 ob:Ob A B
 sub:∀j y,gK B j y->gK A j y
 tk:∀j y,fF B j y↔fF A j y/\(gK A j y->gK B j y)
theorem q8.trans {B C:AR}(h:q8 A B)(k:q8 B C):q8 A C:=
 ⟨⟨k.ob.ga,h.ob.kp.trans k.ob.kp,k.ob.runs.trans h.ob.runs⟩,λj y g=>h.sub j y (k.sub j y g),λj y=>by
  rw[k.tk,h.tk];exact⟨λ⟨⟨a,b⟩,d⟩=>⟨a,λe=>d (b e)⟩,λ⟨a,b⟩=>⟨⟨a,λe=>k.sub j y (b e)⟩,λe=>b (h.sub j y e)⟩⟩⟩
theorem MO (h:GA A)(hk:k<A.tb.length):q8 A (td A k):=by
 obtain⟨c,G,t,E,m⟩:=h.cl hk;have s:k<A.cM.length:=by rw[h.lt];exact hk
 have e:td A k=t.out.foldl (λA' w=>Zl A' (k:Int) w) {A with cM:=A.cM.set k t.tick}:=by unfold td;rw[m]
 have C:t.bs=t.out++t.tick.bs:=(mY ((t.low+1)/2) t.bs).symm;have i:t.bs.flatten=t.out.flatten++t.tick.bs.flatten:=by conv=>lhs;rw[C];rw[List.flatten_append]
 have r:=h.ot k t m;rw[i]at r;have g:=nL.1 r;have u:∀x∈t.bs.flatten,fF A k x:=λx d=>(KH E).2 (h.ln k c G t E m x d);have F:GA {A with cM:=A.cM.set k t.tick}:=h.jv g.2.1 (λx d=>u x (by rw[i];exact mU _ d)) λH z w B=>h.oc k H t z m w (t.nH w B);obtain⟨o,e2,D⟩:=Al k t.out F g.1 λx d=>by
  refine⟨u x (by rw[i];exact kv _ d),?_⟩;rw[vj s];rintro(⟨_,hy⟩|⟨hy,_⟩)
  ·exact g.2.2 x d x hy rfl
  ·exact hy rfl
 rw[←e]at o e2 D;have p:∀j y,gK (td A k) j y↔(j=k/\y∈t.tick.bs.flatten)\/(j≠k/\gK A j y):=λj y=>by
  rw[←vj s];unfold gK;rw[e2]
 refine⟨⟨o.ga,(Kp.aF rfl rfl rfl rfl:Kp A {A with cM:=A.cM.set k t.tick}).trans o.kp,o.runs⟩,λj y d=>?_,λj y=>?_⟩
 ·rcases(p j y).1 d with⟨rfl,hy⟩|⟨_,hy⟩
  ·rw[Hj m,i];exact mU _ hy
  ·exact hy
 ·rw[D,p];show fF A j y/\_↔_;by_cases hjk:j=k
  ·subst hjk;rw[Hj m,i,zL];constructor
   ·rintro⟨a,b⟩;refine⟨a,λd=>?_⟩;rcases d with d|d
    ·exact(b ⟨rfl,d⟩).elim
    ·exact .inl ⟨rfl,d⟩
   ·rintro⟨a,b⟩;refine⟨a,λ⟨_,d⟩=>?_⟩;rcases b (.inl d)with⟨_,hy⟩|⟨hy,_⟩
    ·exact g.2.2 y d y hy rfl
    ·exact hy rfl
  ·exact⟨λ⟨a,_⟩=>⟨a,λd=>.inr ⟨hjk,d⟩⟩,λ⟨a,_⟩=>⟨a,λ⟨d,_⟩=>hjk d⟩⟩
theorem Cc (h:GA A):∀m,m<=A.tb.length->q8 A ((List.range m).foldl td A)
 | 0,_=>⟨⟨h,Kp.refl A,rfl⟩,λ_ _=>id,λ_ _=>⟨λa=>⟨a,id⟩,λa=>a.1⟩⟩
 | m+1,hm=>by
  have t:=Cc h m O;rw[pN,tH,pO,List.foldl_nil];exact t.trans (MO t.ob.ga (by rw[t.ob.kp.tb];omega))
theorem Oi (h:GA A):q8 A (qz A):=Cc h _ (by rw[h.lt];exact zD _)
end Go.Ar
namespace Go.Ar
open Go.Bu (Y4 Ql YW oh KG dA take QV Kf Bounded)
variable {A:AR}{sp:Sp}{k:Nat}{c:bZ}{ss:List cF}
end Go.Ar
namespace Go.Ar
structure Pc where
 k:Nat
 cls:Int
 addr:Nat
 size:Nat
 eI:Bool
 deriving DecidableEq
structure Wd where
 tb:List bZ
 sp:Sp
 bV:List AR
 held:List Pc
structure Act where
 kd:Int
 ar:Int
 cl:Int
 a:Int
 b:Int
 l:List Int
abbrev Key:=Nat×Int×Nat
def Pc.key (p:Pc):Key:=(p.k,p.cls,p.addr)
def kK (k:Nat)(cls x:Int)(p:Pc):Bool:=p.k==k&&(p.cls==cls&&((p.addr:Int)==x && !p.eI))
def sZ (held:List Pc)(k:Nat)(cls x:Int):Option Nat:=held.findIdx? (kK k cls x)
def iW (held:List Pc)(k:Nat)(cls:Int)(l:List Int):Bool:=l.all (λx=>(sZ held k cls x).isSome)&&decide l.Nodup
def la (k:Nat)(cls:Int)(held:List Pc)(x:Int):List Pc:=match sZ held k cls x with
 | some i=>held.take i++held.drop (i+1)
 | none=>held
def tL (held:List Pc)(k:Nat)(cls:Int)(l:List Int):List Pc:=l.foldl (la k cls) held
def dW (k:Nat)(cls:Int)(l:List Int)(p:Pc):Bool:=p.k==k&&(p.cls==cls&&l.contains (p.addr:Int))
def U1 (held:List Pc)(k:Nat)(cls:Int)(l:List Int)(m:Bool):List Pc:=held.map λp=>if dW k cls l p then{p with eI:=m}else p
def BY (held:List Pc)(x:Int):Bool:=held.any λp=>decide ((p.addr:Int)<=x)&&decide (x-(p.addr:Int)<(p.size:Int))
def wc (us:List AR)(held:List Pc):List Pc:=held.filter λp=>!p.eI||(match us[p.k]? with
 | some A=>uD A (p.addr:Int)
 | none=>false)
def nv (tb:List bZ)(k:Int):Nat:=((tb[k.toNat]?).map (·.size)).getD 0
def Wd.put (W:Wd)(k:Nat)(A:AR)(sp:Sp)(held:List Pc):Wd:={W with sp:=sp,bV:=W.bV.set k A,held:=held}
def Hd (A:AR)(p:Pc):Prop:=(p.cls = -1/\p.eI=false/\∃r∈A.runs,p.addr=r.1*256/\p.size=r.2*256) ∨
 ∃(j:Nat) (c:bZ),p.cls=j/\A.tb[j]?=some c/\p.size=c.size/\fF A j (p.addr:Int)/\(p.eI=true↔gK A j (p.addr:Int))
structure WI (W:Wd):Prop where
 ga:∀(k:Nat) (A:AR),W.bV[k]?=some A->GA A
 ow:∀(k:Nat) (A:AR),W.bV[k]?=some A->Ow A W.sp
 tb:∀(k:Nat) (A:AR),W.bV[k]?=some A->A.tb=W.tb
 low:∀(k:Nat) (A:AR),W.bV[k]?=some A->∀p,p<16->A.f p=0
 own:∀p,gf W.sp.st p≠0->∃(k:Nat) (A:AR),W.bV[k]?=some A/\A.f p≠0
 one:∀p (k l:Nat) (A B:AR),W.bV[k]?=some A->W.bV[l]?=some B->A.f p≠0->B.f p≠0->k=l
 hk:(W.held.map Pc.key).Nodup
 hf:∀p∈W.held,∃A,W.bV[p.k]?=some A/\Hd A p
 ht:∀(k:Nat) (A:AR),W.bV[k]?=some A->∀(j:Nat) (y:Int),fF A j y->∃p∈W.held,p.k=k/\p.cls=j/\(p.addr:Int)=y
 hr:∀(k:Nat) (A:AR),W.bV[k]?=some A->∀r∈A.runs,∃p∈W.held,p.k=k/\p.cls = -1/\p.addr=r.1*256
variable {W:Wd}{k:Nat}{A:AR}
theorem KF {α:Type}{l:List α}{k j:Nat}{x y:α}(h:(l.set k x)[j]?=some y):(j=k/\y=x/\k<l.length)\/(j≠k/\l[j]?=some y):=by
 by_cases hjk:j=k
 ·subst hjk;have a:j<l.length:=by have:=(cX.1 h).1;simpa using this
  rw[zJ a]at h;exact .inl ⟨rfl,(Option.some.inj h).symm,a⟩
 ·rw[ze (Ne.symm hjk)]at h;exact .inr ⟨hjk,h⟩
theorem WI.unique (h:WI W){p q:Pc}(hp:p∈W.held)(hq:q∈W.held)(e:p.key=q.key):p=q:=by
 obtain⟨i,d⟩:=zO hp;obtain⟨j,g⟩:=zO hq;obtain⟨a,rfl⟩:=cX.1 d;obtain⟨b,rfl⟩:=cX.1 g;have:=lu.1 h.hk;rcases oF i j with hl|hl|hl
 ·exact(this i j (by simpa using a) (by simpa using b) hl (by simpa using e)).elim
 ·subst hl;rfl
 ·exact(this j i (by simpa using b) (by simpa using a) hl (by simpa using e.symm)).elim
theorem WI.step (h:WI W)(hk:W.bV[k]?=some A){B:AR}{sp':Sp}{held':List Pc}(s:St A B W.sp sp')(h1:(held'.map Pc.key).Nodup)(h2:∀p∈held',p.k=k->Hd B p)(h3:∀p,p.k≠k->(p∈held'↔p∈W.held))
 (h4:∀(j:Nat) (y:Int),fF B j y->∃p∈held',p.k=k/\p.cls=j/\(p.addr:Int)=y) (h5:∀r∈B.runs,∃p∈held',p.k=k/\p.cls = -1/\p.addr=r.1*256):WI (W.put k B sp' held'):=by
 have F:=(cX.1 hk).1;have m:(W.bV.set k B)[k]?=some B:=zJ F;have J:∀{j:Nat} {C:AR},j≠k->W.bV[j]?=some C->(W.bV.set k B)[j]?=some C:=λa e=>(ze (Ne.symm a)).trans e;have g:∀{j:Nat} {C:AR},j≠k->W.bV[j]?=some C->∀p,C.f p≠0->A.f p=0/\B.f p=0/\gf sp'.st p=gf W.sp.st p:=by
  intro j C a e p b;have u:A.f p=0:=Classical.byContradiction λx=>a (h.one p j k C A e hk b x);have w:B.f p=0:=Classical.byContradiction λx=>by
   have:=(s.new p u x).1;exact(h.ow j C e).own p b this
  exact⟨u,w,s.same p u w⟩
 refine⟨λj C a=>?_,λj C a=>?_,λj C a=>?_,λj C a p b=>?_,λp b=>?_,λp j l C D a G e z=>?_,h1,λp b=>?_,λj C a i y H=>?_,λj C a r hr=>?_⟩
 ·rcases KF a with⟨rfl,rfl,_⟩|⟨_,a⟩
  ·exact s.ga
  ·exact h.ga j C a
 ·rcases KF a with⟨rfl,rfl,_⟩|⟨d,a⟩
  ·exact s.ow
  ·have o:=h.ow j C a;have L:=h.ow k A hk;refine⟨?_,λp b=>?_,λp b=>?_,s.ow.le⟩
   ·show sp'.st.length=C.n;rw[s.ow.l,s.n,←L.l,o.l]
   ·show gf sp'.st p≠0;rw[(g d a p b).2.2];exact o.own p b
   ·show gf sp'.st p=1;rw[(g d a p O).2.2];exact o.cl p b
 ·rcases KF a with⟨rfl,rfl,_⟩|⟨_,a⟩
  ·exact s.tb.trans (h.tb _ A hk)
  ·exact h.tb j C a
 ·rcases KF a with⟨rfl,rfl,_⟩|⟨_,a⟩
  ·apply Classical.byContradiction;intro x;have:=s.new p (h.low _ A hk p b) x;omega
  ·exact h.low j C a p b
 ·have b:gf sp'.st p≠0:=b;by_cases w:B.f p=0
  ·by_cases u:A.f p=0
   ·rw[s.same p u w]at b;obtain⟨j,C,a,e⟩:=h.own p b;have d:j≠k:=by
     rintro rfl;rw[hk]at a;cases a;exact e u
    exact⟨j,C,J d a,e⟩
   ·exact(b (s.gone p u w)).elim
  ·exact⟨k,B,m,w⟩
 ·rcases KF a with⟨rfl,rfl,_⟩|⟨d,hj'⟩
  ·rcases KF G with⟨rfl,rfl,_⟩|⟨hne2,hl'⟩
   ·rfl
   ·exact(e (g hne2 hl' p z).2.1).elim
  ·rcases KF G with⟨rfl,rfl,_⟩|⟨hne2,hl'⟩
   ·exact(z (g d hj' p e).2.1).elim
   ·exact h.one p j l C D hj' hl' e z
 ·by_cases hpk:p.k=k
  ·exact⟨B,by rw[hpk];exact m,h2 p b hpk⟩
  ·obtain⟨C,e,K⟩:=h.hf p ((h3 p hpk).1 b);exact⟨C,J hpk e,K⟩
 ·rcases KF a with⟨rfl,rfl,_⟩|⟨d,a⟩
  ·exact h4 i y H
  ·obtain⟨p,b,e1,e2,E⟩:=h.ht j C a i y H;exact⟨p,(h3 p (by rw[e1];exact d)).2 b,e1,e2,E⟩
 ·rcases KF a with⟨rfl,rfl,_⟩|⟨d,a⟩
  ·exact h5 r hr
  ·obtain⟨p,b,e1,e2,E⟩:=h.hr j C a r hr;exact⟨p,(h3 p (by rw[e1];exact d)).2 b,e1,e2,E⟩
theorem Hd.to {B:AR}{p:Pc}(h:Hd A p)(e1:B.tb=A.tb)(e2:B.runs=A.runs)(e3:∀j y,fF A j y->fF B j y)(e4:∀j y,gK B j y↔gK A j y):Hd B p:=by
 rcases h with⟨h1,h2,r,hr,h3⟩|⟨j,c,h1,h2,h3,h4,h5⟩
 ·exact .inl ⟨h1,h2,r,by rw[e2];exact hr,h3⟩
 ·exact .inr ⟨j,c,h1,by rw[e1];exact h2,h3,e3 _ _ h4,by rw[e4];exact h5⟩
theorem WI.hd (h:WI W)(hk:W.bV[k]?=some A){p:Pc}(hp:p∈W.held)(e:p.k=k):Hd A p:=by
 obtain⟨C,a,b⟩:=h.hf p hp;rw[e,hk]at a;cases a;exact b
theorem WI.kM (h:WI W)(hk:W.bV[k]?=some A){B:AR}{sp':Sp}(s:St A B W.sp sp')(e2:B.runs=A.runs)(e3:∀j y,fF B j y↔fF A j y)(e4:B.cM=A.cM):WI (W.put k B sp' W.held):=
 h.step hk s h.hk (λp a e=>(h.hd hk a e).to s.tb e2 (λj y=>(e3 j y).2) λj y=>by unfold gK;rw[e4]) (λ_ _=>Iff.rfl) (λj y b=>h.ht k A hk j y ((e3 j y).1 b)) λr hr=>h.hr k A hk r (by rw[←e2];exact hr)
theorem WI.cls (h:WI W){p:Pc}(hp:p∈W.held){j:Nat}(e:p.cls=j)(hk:W.bV[p.k]?=some A):∃c,A.tb[j]?=some c/\p.size=c.size/\fF A j (p.addr:Int)/\(p.eI=true↔gK A j (p.addr:Int)):=by
 rcases h.hd hk hp rfl with⟨h1,_⟩|⟨i,c,h1,h2,h3,h4,h5⟩
 ·omega
 ·obtain rfl:i=j:=by omega
  exact⟨c,h2,h3,h4,h5⟩
theorem WI.run (h:WI W){p:Pc}(hp:p∈W.held)(e:p.cls = -1)(hk:W.bV[p.k]?=some A):p.eI=false/\∃r∈A.runs,p.addr=r.1*256/\p.size=r.2*256:=by
 rcases h.hd hk hp rfl with⟨_,h2⟩|⟨i,c,h1,_⟩
 ·exact h2
 ·omega
theorem Kc {k:Nat}{cls x:Int}{p:Pc}:kK k cls x p=true↔p.k=k/\p.cls=cls/\(p.addr:Int)=x/\p.eI=false:=by
 simp[kK]
theorem ZM {k:Nat}{cls:Int}{l:List Int}{p:Pc}:dW k cls l p=true↔p.k=k/\p.cls=cls/\(p.addr:Int)∈l:=by
 simp[dW]
theorem JQ {held:List Pc}{k:Nat}{cls x:Int}{i:Nat}(h:sZ held k cls x=some i):∃p,held[i]?=some p/\kK k cls x p=true:=by
 obtain⟨a,b,_⟩:=mQ.1 h;exact⟨held[i],cW a,b⟩
theorem OE {held:List Pc}{k:Nat}{cls x:Int}{p:Pc}(hp:p∈held)(h:kK k cls x p=true):(sZ held k cls x).isSome=true:=by
 unfold sZ;rw[List.findIdx?_isSome,jU];exact⟨p,hp,h⟩
theorem Ke {held:List Pc}{k:Nat}{cls:Int}{l:List Int}:iW held k cls l=true↔(∀x∈l,∃p∈held,kK k cls x p=true)/\l.Nodup:=by
 unfold iW;rw[zE,zr,zS];refine and_congr_left λ_=>forall_congr' λx=>imp_congr_right λa=>?_;unfold sZ;rw[List.findIdx?_isSome,jU]
theorem Im {held:List Pc}(hn:(held.map Pc.key).Nodup){i:Nat}{p:Pc}(hi:held[i]?=some p):held.take i++held.drop (i+1)=held.filter λq=>!(q.key==p.key):=by
 induction held generalizing i with
 | nil=>simp at hi
 | cons q l ih=>
  rw[zU,zt]at hn;cases i with
  | zero=>
   simp only[yk,Option.some.injEq]at hi;subst hi;have:l.filter (λr=>!(r.key==q.key))=l:=by
    rw[oV];intro r hr;have:r.key≠q.key:=λe=>hn.1 (zF.2 ⟨r,hr,e⟩);simpa using this
   simp[this]
  | succ i=>
   have hi:l[i]?=some p:=by simpa using hi
   have a:q.key≠p.key:=λe=>hn.1 (zF.2 ⟨p,zG hi,e.symm⟩);rw[wQ,vC,kG,ih hn.2 hi,rT];have:(!(q.key==p.key))=true:=by simpa using a
   rw[this];rfl
theorem Vv {held:List Pc}(hn:(held.map Pc.key).Nodup)(f:Pc->Bool):((held.filter f).map Pc.key).Nodup:=hn.sublist (List.filter_sublist.map _)
theorem Bq {k:Nat}{cls:Int}:∀(l:List Int) {held:List Pc},(held.map Pc.key).Nodup->(∀x∈l,∃p∈held,kK k cls x p=true)->l.Nodup->tL held k cls l=held.filter λp=>!dW k cls l p
 | [],held,_,_,_=>by
  have:∀p,dW k cls [] p=false:=λp=>by simp[dW]
  exact(oV.2 λp _=>by rw[this];rfl).symm
 | x::l,held,hn,ho,hl=>by
  obtain⟨p,A,B⟩:=ho x aA;obtain⟨i,w⟩:=om.1 (OE A B);obtain⟨q,C,j⟩:=JQ w;have g:=zt.1 hl;have e1:la k cls held x=held.filter λr=>!(r.key==q.key):=by unfold la;rw[w];exact Im hn C
  obtain⟨H,G,F,D⟩:=Kc.1 j;have s:=Bq l (held:=held.filter λr=>!(r.key==q.key)) (Vv hn _) (λy m=>by
   obtain⟨r,u,d⟩:=ho y (by simp[m]);refine⟨r,zI.2 ⟨u,?_⟩,d⟩;have:r.key≠q.key:=λe=>by
    have E:r.addr=q.addr:=congrArg (λz:Key=>z.2.2) e;have:=(Kc.1 d).2.2.1;have:y=x:=by omega
    subst this;exact g.1 m
   simpa using this) g.2
  unfold tL at s ⊢;rw[pO,e1,s,Ah];apply wN;intro r u;have e:(r.key==q.key)=(r.k==k&&(r.cls==cls&&(r.addr:Int)==x)):=by
   rw[mq];simp only[Pc.key,zV,zE,Prod.mk.injEq];constructor
   ·rintro⟨a,b,c⟩;exact⟨O,O,O⟩
   ·rintro⟨a,b,c⟩;exact⟨O,O,O⟩
  rw[e];unfold dW;rw[List.contains_cons];cases r.k==k<;>cases r.cls==cls<;>cases((r.addr:Int)==x)<;>cases l.contains (r.addr:Int)<;>rfl
theorem Qo {held:List Pc}{k:Nat}{cls:Int}{l:List Int}{m:Bool}{p:Pc}:p∈U1 held k cls l m↔∃q∈held,p=if dW k cls l q then{q with eI:=m}else q:=by
 unfold U1;rw[zF];constructor
 ·rintro⟨q,hq,rfl⟩;exact⟨q,hq,rfl⟩
 ·rintro⟨q,hq,rfl⟩;exact⟨q,hq,rfl⟩
theorem Pd {held:List Pc}{k:Nat}{cls:Int}{l:List Int}{m:Bool}:(U1 held k cls l m).map Pc.key=held.map Pc.key:=by
 unfold U1;rw[lV];apply j5;intro p _;simp only[Function.comp];split<;>rfl
theorem HY (hk:W.bV[k]?=some A)(h:WI W):WI (W.put k A W.sp W.held):=h.kM hk (St.refl (h.ga k A hk) (h.ow k A hk)) rfl (λ_ _=>Iff.rfl) rfl
theorem IU (h:GA A){j:Nat}{c:bZ}{ss:List cF}(hc:Cl A j c ss){l:Nat}{s:cF}{i:Nat}(hs:ss[l]?=some s)(hi:i<c.n){x:Nat}(h1:at_ c s i<=x)(h2:x<at_ c s i+c.size):Uj A (x:Int)=some ((j:Int),at_ c s i):=by
 have d:=h.cD j c ss hc;have b:=US d.pos hi h1 h2;have a:=h.used hc (zG hs) b.1 b.2;have m:=h.pg.lt (p:=x/256) (by rw[a.1];omega);have r:=h.pg.n2;have e:=hc.lt;have g:=h.tb;unfold Uj;rw[zB O,dC];simp only;rw[zC (show x/256<1024 by omega),a.2,zB O,zB O,Nat.add_sub_cancel,hc.1,hc.2];simp only;rw[(Dz d).2 ⟨l,s,i,hs,hi,rfl,O,O⟩];rfl
theorem Dp (h:GA A){r:Nat×Nat}(hr:r∈A.runs){x:Nat}(h1:r.1*256<=x)(h2:x<(r.1+r.2)*256):Uj A (x:Int)=some (-1,r.1*256):=by
 have a:=h.jc hr (p:=x/256) O O;have b:=h.pg.lt (p:=x/256) (by rw[a.1];omega);have d:=h.pg.n2;unfold Uj;rw[zB O,dC];simp only;rw[zC (show x/256<1024 by omega),a.2,zB O,zC rfl,xj h.ns hr O O];rfl
theorem FW (h:GA A){x:Int}{k:Int}{a:Nat}(hf:Uj A x=some (k,a)):(k = -1/\∃r∈A.runs,a=r.1*256/\((r.1*256:Nat):Int)<=x/\x<(((r.1+r.2)*256:Nat):Int)) ∨
 ∃(j:Nat) (c:bZ) (ss:List cF) (l:Nat) (s:cF) (i:Nat),k=j/\Cl A j c ss/\ss[l]?=some s/\i<c.n/\a=at_ c s i/\((at_ c s i:Nat):Int)<=x/\x<((at_ c s i+c.size:Nat):Int):=by
 unfold Uj at hf;split at hf
 ·cases hf
 ·rename_i hx;obtain⟨y,rfl⟩:=zY (show 0<=x by omega);rw[dC]at hf;simp only at hf;by_cases hlt:y/256<1024
  ·rw[zC hlt]at hf;split at hf
   ·cases hf
   ·split at hf
    ·rename_i h0 h41;obtain⟨r,e,b⟩:=nT.1 hf;have g:=rR e;have p:=rH e;simp at p;cases b;exact .inl ⟨rfl,r,g,rfl,O,O⟩
    ·rename_i h0 h41;split at hf
     ·rename_i c ss h1 h2;obtain⟨C,m,b⟩:=nT.1 hf;cases b;have d:Cl A (A.ow (y/256)-1) c ss:=⟨h1,h2⟩;obtain⟨l,s,i,u,z,rfl,w,B⟩:=(Dz (h.cD _ _ _ d)).1 m;exact .inr ⟨_,c,ss,l,s,i,rfl,d,u,z,rfl,w,B⟩
     ·cases hf
  ·rw[zB hlt,zC rfl]at hf;cases hf
theorem fF.find (h:GA A){j:Nat}{x:Int}(hx:fF A j x):∃y:Nat,x=y/\Uj A x=some ((j:Int),y):=by
 obtain⟨c,e,a,d⟩:=hx;have b:=h.cD j c e a;obtain⟨l,s,i,g,m,rfl,p⟩:=(VC b).1 d;exact⟨_,rfl,IU h a g m (zD _) (by have:=b.pos;omega)⟩
theorem GL (h:GA A){x:Int}:uD A x=true↔(∃j,fF A j x)\/∃r∈A.runs,x=((r.1*256:Nat):Int):=by
 constructor
 ·intro hx;unfold uD at hx;split at hx
  ·rename_i k a e;split at hx
   ·rename_i he;rcases FW h e with⟨rfl,r,hr,rfl,_⟩|⟨j,c,d,l,s,i,rfl,b,hs,hi,rfl,_⟩
    ·exact .inr ⟨r,hr,he.symm⟩
    ·rw[zB O,dC,b.1,b.2]at hx;exact .inl ⟨j,c,d,b,by simpa[Tk]using hx⟩
   ·cases hx
  ·cases hx
 ·rintro(⟨j,hj⟩|⟨r,hr,rfl⟩)
  ·obtain⟨y,rfl,e⟩:=hj.find h;obtain⟨c,d,b,g⟩:=hj;unfold uD;rw[e];simp only;rw[zC True.intro,zB O,dC,b.1,b.2];unfold Tk at g;show(dT c d (y:Int)==some true)=true;rw[g];rfl
  ·unfold uD;have:=h.gC r hr;rw[Dp h hr (zD _) O];simp
theorem WI.uy (h:WI W)(hk:W.bV[k]?=some A){cl:Int}{l:List Int}(ho:iW W.held k cl l=true){j:Nat}(e:cl=j):∀x∈l,¬gK A j x:=by
 intro x hx hin;obtain⟨p,r,a⟩:=(Ke.1 ho).1 x hx;obtain⟨g,i,m,b⟩:=Kc.1 a;obtain⟨c,_,_,_,d⟩:=h.cls r (j:=j) (by rw[i,e]) (by rw[g];exact hk);rw[m]at d;rw[d.2 hin]at b;cases b
theorem WI.grow (h:WI W)(hk:W.bV[k]?=some A)(x:Int):WI (W.put k (cL A W.sp x).1 (cL A W.sp x).2 W.held):=by
 obtain⟨s,e1,e2,a,_⟩:=IH (h.ga k A hk) (h.ow k A hk) x;exact h.kM hk s e1 a e2
theorem WI.from (h:WI W)(hk:W.bV[k]?=some A)(cl m:Int):WI (W.put k (Yk A cl m) W.sp (W.held++(X1 A cl m).map λy=>⟨k,cl,y,nv W.tb cl,false⟩)):=by
 obtain⟨o,e1,e2,N,E,z⟩:=A6 (h.ga k A hk) cl m;have tb:(Yk A cl m).tb=A.tb:=o.kp.tb;have i:∀y∈X1 A cl m,∃j:Nat,cl=j/\j<A.tb.length:=λy g=>N (λe=>by rw[e]at g;simp at g);have w:∀y∈X1 A cl m,∀p∈W.held,¬(p.k=k/\p.cls=cl/\p.addr=y):=by
  rintro y g p d ⟨K,J,L⟩;obtain⟨j,rfl,_⟩:=i y g;obtain⟨c,_,_,ht,_⟩:=h.cls d J (by rw[K];exact hk);rw[L]at ht;exact E y g (by rw[dC];exact ht)
 refine h.step hk (o.st (h.ow k A hk)) ?_ (λp d e=>?_) (λp B=>?_) (λj y g=>?_) λr hr=>?_
 ·rw[lI,nL];refine⟨h.hk,?_,λa G b H e=>?_⟩
  ·rw[lV];exact List.Pairwise.map (R:=(· ≠ ·)) _ (λa b C e=>C (by simpa[Pc.key]using e)) e2
  ·subst e;obtain⟨p,d,rfl⟩:=zF.1 G;obtain⟨q,M,e⟩:=zF.1 H;obtain⟨y,g,rfl⟩:=zF.1 M;simp only[Pc.key,Prod.mk.injEq]at e;exact w y g p d ⟨e.1.symm,e.2.1.symm,e.2.2.symm⟩
 ·rcases zL.1 d with d|d
  ·exact(h.hd hk d e).to tb o.runs (λj y u=>(z j y).2 (.inl u)) λj y=>by unfold gK;rw[e1]
  ·obtain⟨y,g,rfl⟩:=zF.1 d;obtain⟨j,rfl,u⟩:=i y g;refine .inr ⟨j,A.tb[j],rfl,by rw[tb];exact cW u,?_,(z j y).2 (.inr ⟨(dC j).symm,y,g,rfl⟩),?_⟩
   ·show nv W.tb (j:Int)=_;unfold nv;rw[dC,←h.tb k A hk,cW u];rfl
   ·constructor
    ·intro hx;cases hx
    ·rintro⟨t,ht,hx⟩;rw[e1]at ht;obtain⟨c,F,P,D,s⟩:=(h.ga k A hk).cl u;rw[ht]at s;cases s;exact(E y g (by rw[dC];exact(KH D).2 ((h.ga k A hk).ln j c F t D ht _ hx))).elim
 ·rw[zL];constructor
  ·rintro(d|d)
   ·exact d
   ·obtain⟨y,_,rfl⟩:=zF.1 d;exact(B rfl).elim
  ·exact .inl
 ·rcases(z j y).1 g with g|⟨rfl,x,hx,rfl⟩
  ·obtain⟨p,d,q⟩:=h.ht k A hk j y g;exact⟨p,kv _ d,q⟩
  ·obtain⟨j,rfl,_⟩:=i x hx;exact⟨_,mU _ (zF.2 ⟨x,hx,rfl⟩),rfl,by simp,rfl⟩
 ·rw[o.runs]at hr;obtain⟨p,d,q⟩:=h.hr k A hk r hr;exact⟨p,kv _ d,q⟩
theorem WI.vB (h:WI W){cl:Int}{l:List Int}(ho:iW W.held k cl l=true):tL W.held k cl l=W.held.filter λp=>!dW k cl l p:=
 Bq l h.hk (Ke.1 ho).1 (Ke.1 ho).2
theorem WI.E9 (h:WI W)(hk:W.bV[k]?=some A){cl:Int}{l:List Int}(ho:iW W.held k cl l=true):WI (W.put k (Zl A cl l) W.sp (if Qx A cl l=0 then tL W.held k cl l else W.held)):=by
 have ga:=h.ga k A hk;obtain⟨o,e1,e2,K⟩:=xF ga (k:=cl) (xs:=l) λg x m=>by
  obtain⟨j,c,H,rfl,_⟩:=G2 ga g;rw[dC];exact h.uy hk ho rfl x m
 by_cases g:Qx A cl l=0
 ·rw[zC g,h.vB ho];obtain⟨j,c,H,rfl,L,N⟩:=G2 ga g;have e2:=e2 g;rw[dC]at e2;refine h.step hk (o.st (h.ow k A hk)) (Vv h.hk _) (λp s e=>?_) (λp z=>?_) (λi y J=>?_) λr hr=>?_
  ·have u:=zI.1 s;have F:dW k (j:Int) l p=false:=by simpa using u.2
   rcases h.hd hk u.1 e with⟨h1,h2,r,hr,h3⟩|⟨i,d,h1,h2,h3,h4,h5⟩
   ·exact .inl ⟨h1,h2,r,by rw[o.runs];exact hr,h3⟩
   ·refine .inr ⟨i,d,h1,by rw[o.kp.tb];exact h2,h3,(e2 i _).2 ⟨h4,λ⟨a,b⟩=>?_⟩,by unfold gK at h5 ⊢;rw[e1];exact h5⟩;have:dW k (j:Int) l p=true:=ZM.2 ⟨e,by rw[h1,a],b⟩;rw[F]at this;cases this
  ·rw[zI];have:dW k (j:Int) l p=false:=by
    apply mK.2;intro m;exact z (ZM.1 m).1
   rw[this];simp
  ·obtain⟨B,E⟩:=(e2 i y).1 J;obtain⟨p,s,D,C,w⟩:=h.ht k A hk i y B;refine⟨p,zI.2 ⟨s,?_⟩,D,C,w⟩;have:dW k (j:Int) l p=false:=by
    apply mK.2;intro m;obtain⟨_,M,G⟩:=ZM.1 m;exact E ⟨O,by rw[←w];exact G⟩
   rw[this];rfl
  ·rw[o.runs]at hr;obtain⟨p,s,D,C,w⟩:=h.hr k A hk r hr;refine⟨p,zI.2 ⟨s,?_⟩,D,C,w⟩;have:dW k (j:Int) l p=false:=by
    apply mK.2;intro m;have:=(ZM.1 m).2.1;omega
   rw[this];rfl
 ·rw[zB g,K g];exact HY hk h
theorem WI.move (h:WI W)(hk:W.bV[k]?=some A){B:AR}{j:Nat}{l:List Int}{m:Bool}(o:Ob A B)(e1:∀i y,fF B i y↔fF A i y)(e2:∀i y,gK B i y↔if i=j/\y∈l then m=true else gK A i y):WI (W.put k B W.sp (U1 W.held k (j:Int) l m)):=by
 refine h.step hk (o.st (h.ow k A hk)) (by rw[Pd];exact h.hk) (λp a e=>?_) (λp b=>?_) (λi y g=>?_) λr hr=>?_
 ·obtain⟨q,w,rfl⟩:=Qo.1 a;have d:q.k=k:=by
   split at e<;>exact e
  rcases h.hd hk w d with⟨h1,h2,r,hr,h3⟩|⟨i,c,h1,h2,h3,h4,h5⟩
  ·have:dW k (j:Int) l q=false:=by
    apply mK.2;intro hx;have:=(ZM.1 hx).2.1;omega
   rw[this];exact .inl ⟨h1,h2,r,by rw[o.runs];exact hr,h3⟩
  ·by_cases hx:dW k (j:Int) l q=true
   ·rw[zC hx];obtain⟨_,D,C⟩:=ZM.1 hx;have x:i=j:=by omega
    refine .inr ⟨i,c,h1,by rw[o.kp.tb];exact h2,h3,(e1 _ _).2 h4,?_⟩;show m=true↔gK B i (q.addr:Int);rw[e2,zC ⟨x,C⟩]
   ·rw[zB hx];refine .inr ⟨i,c,h1,by rw[o.kp.tb];exact h2,h3,(e1 _ _).2 h4,?_⟩;rw[e2,zB λg=>hx (ZM.2 ⟨d,by rw[h1,g.1],g.2⟩)];exact h5
 ·rw[Qo];constructor
  ·rintro⟨q,w,rfl⟩;have:dW k (j:Int) l q=false:=by
    apply mK.2;intro hx;rw[zC hx]at b;exact b (ZM.1 hx).1
   rw[this];exact w
  ·intro a;refine⟨p,a,?_⟩;have:dW k (j:Int) l p=false:=by
    apply mK.2;intro hx;exact b (ZM.1 hx).1
   rw[this];rfl
 ·obtain⟨p,a,s,z,u⟩:=h.ht k A hk i y ((e1 i y).1 g);refine⟨_,Qo.2 ⟨p,a,rfl⟩,?_,?_,?_⟩
  ·split<;>exact s
  ·split<;>exact z
  ·split<;>exact u
 ·rw[o.runs]at hr;obtain⟨p,a,s,z,u⟩:=h.hr k A hk r hr;refine⟨_,Qo.2 ⟨p,a,rfl⟩,?_,?_,?_⟩
  ·split<;>exact s
  ·split<;>exact z
  ·split<;>exact u
theorem JZ {held:List Pc}{k:Nat}{cls:Int}{m:Bool}:U1 held k cls [] m=held:=by
 unfold U1;have:∀p,dW k cls [] p=false:=λp=>by simp[dW]
 simp[this]
theorem WI.tA (h:WI W)(hk:W.bV[k]?=some A)(cl:Int):WI (W.put k (Zo A cl) W.sp (U1 W.held k cl (Yg A cl) false)):=by
 obtain⟨o,e1,e2,s,m,a⟩:=Dx (h.ga k A hk) cl;by_cases hv:Yg A cl=[]
 ·rw[hv,JZ];have g:∀j y,gK (Zo A cl) j y↔gK A j y:=λj y=>by rw[a,hv];simp
  refine h.step hk (o.st (h.ow k A hk)) h.hk (λp b e=>(h.hd hk b e).to o.kp.tb o.runs (λj y=>(e1 j y).2) g) (λ_ _=>Iff.rfl) (λj y d=>h.ht k A hk j y ((e1 j y).1 d)) λr hr=>h.hr k A hk r (by rw[←o.runs];exact hr)
 ·obtain⟨j,rfl,_⟩:=m hv;rw[dC]at a;exact h.move hk o e1 λi y=>by
   rw[a];split
   ·rename_i hx;simp[hx]
   ·rename_i hx;simp[hx]
theorem WI.Me (h:WI W)(hk:W.bV[k]?=some A){cl:Int}{l:List Int}(ho:iW W.held k cl l=true):WI (W.put k (QL A cl l) W.sp (if KE A cl l then U1 W.held k cl l true else W.held)):=by
 by_cases a:KE A cl l=true
 ·have b:∃j:Nat,cl=j:=by
   have d:UB A cl l=0:=by
    unfold KE at a;simp only[zE,zS]at a;exact a.1
   have b:A.ck cl=true:=by
    unfold UB at d;split at d
    ·assumption
    ·cases d
   obtain⟨j,g,_⟩:=UE.1 b;exact⟨j,g⟩
  obtain⟨j,rfl⟩:=b;obtain⟨o,e1,e2,_⟩:=JJ (h.ga k A hk) (j:Int) (xs:=l) (Ke.1 ho).2 (by rw[dC];exact h.uy hk ho rfl);obtain⟨_,_,e2⟩:=e2 a;rw[dC]at e2;rw[a,zC rfl];exact h.move hk o e1 λi y=>by
   rw[e2];split
   ·rename_i hx;simp[hx]
   ·rename_i hx;simp[hx]
 ·have a:KE A cl l=false:=by simpa using a
  have e:QL A cl l=A:=by unfold QL;rw[a];rfl
  rw[a,e];exact HY hk h
theorem WI.tW (h:WI W)(hk:W.bV[k]?=some A)(m a:Int):WI (W.put k (cA A W.sp m a).1 (cA A W.sp m a).2 (if Qd A W.sp m a=0 then W.held++[⟨k, -1,ZO A W.sp m a*256,m.toNat*256,false⟩]else W.held)):=by
 rcases OA (h.ga k A hk) (h.ow k A hk) m a with⟨e,hE,_⟩|⟨x,A1,sp1,g,hE,hV,e,htk,hor,s,et,ek⟩
 ·rw[zB hE,e];exact HY hk h
 ·rw[zC hE,hV];have w:(cA A W.sp m a).1.runs=A.runs++[(x,m.toNat)]:=by rw[e]
  have u:∀r∈A.runs,r.1≠x:=by
   have hd:=s.ga.jO;rw[w]at hd;intro r hr e2;have z:=(oE.1 hd).2.2 r hr (x,m.toNat) aA;have B:=(h.ga k A hk).gC r hr;have i:=s.ga.gC (x,m.toNat) (by rw[w];simp);simp only at z i;omega
  refine h.step hk s ?_ (λp g e=>?_) (λp C=>?_) (λj y D=>?_) λr hr=>?_
  ·rw[lI,nL];refine⟨h.hk,by simp,λb E d hd e2=>?_⟩;subst e2;obtain⟨p,g,rfl⟩:=zF.1 E;simp only[zU,sG,zR,Pc.key,Prod.mk.injEq]at hd;obtain⟨_,r,hr,i,_⟩:=h.run g hd.2.1 (A:=A) (by rw[hd.1];exact hk);exact u r hr O
  ·rcases zL.1 g with g|g
   ·rcases h.hd hk g e with⟨z,B,r,hr,i⟩|⟨j,c,z,B,i,h4,h5⟩
    ·exact .inl ⟨z,B,r,by rw[w];exact kv _ hr,i⟩
    ·exact .inr ⟨j,c,z,by rw[s.tb];exact B,i,(ek _ _).2 h4,by unfold gK at h5 ⊢;rw[et];exact h5⟩
   ·simp only[zR]at g;subst g;exact .inl ⟨rfl,rfl,(x,m.toNat),by rw[w];simp,rfl,rfl⟩
  ·rw[zL];constructor
   ·rintro(g|g)
    ·exact g
    ·simp only[zR]at g;subst g;exact(C rfl).elim
   ·exact .inl
  ·obtain⟨p,g,q⟩:=h.ht k A hk j y ((ek j y).1 D);exact⟨p,kv _ g,q⟩
  ·rw[w]at hr;rcases zL.1 hr with hr|hr
   ·obtain⟨p,g,q⟩:=h.hr k A hk r hr;exact⟨p,kv _ g,q⟩
   ·simp only[zR]at hr;subst hr;exact⟨_,mU _ (zR.2 rfl),rfl,rfl,rfl⟩
theorem WI.ma (h:WI W)(hk:W.bV[k]?=some A){r:Nat×Nat}(hr:r∈A.runs):iW W.held k (-1) [(r.1:Int)*256]=true:=by
 refine Ke.2 ⟨λx e=>?_,by simp⟩;simp only[zR]at e;subst e;obtain⟨p,d,b,a,g⟩:=h.hr k A hk r hr;exact⟨p,d,Kc.2 ⟨b,a,O,(h.run d a (by rw[b];exact hk)).1⟩⟩
theorem WI.uH (h:WI W)(hk:W.bV[k]?=some A)(x:Int):WI (W.put k (Qi A x) W.sp (if Ku A x=0 then tL W.held k (-1) [x*256]else W.held)):=by
 have ga:=h.ga k A hk;obtain⟨⟨kp,g⟩,K,J,e1,e2⟩:=NY ga x;by_cases h0:Ku A x=0
 ·rw[zC h0];obtain⟨r,hr,rfl,G⟩:=e2 h0;rw[h.vB (h.ma hk hr)];have m:∀p:Pc,dW k (-1) [(r.1:Int)*256] p=true↔p.k=k/\p.cls = -1/\p.addr=r.1*256:=λp=>by
   rw[ZM];simp only[zR];constructor
   ·rintro⟨a,b,c⟩;exact⟨a,b,O⟩
   ·rintro⟨a,b,c⟩;exact⟨a,b,O⟩
  refine h.step hk (St.kp g (h.ow k A hk) kp) (Vv h.hk _) (λp s e=>?_) (λp D=>?_) (λi y L=>?_) λq d=>?_
  ·have z:=zI.1 s;have w:¬dW k (-1) [(r.1:Int)*256] p=true:=by simpa using z.2
   rw[m]at w;rcases h.hd hk z.1 e with⟨h1,h2,q,d,u⟩|⟨j,c,h1,h2,u,H,E⟩
   ·refine .inl ⟨h1,h2,q,?_,u⟩;rw[G,zI];refine⟨d,?_⟩;have:q≠r:=by rintro rfl;exact w ⟨e,h1,u.1⟩
    simpa using this
   ·exact .inr ⟨j,c,h1,by rw[kp.tb];exact h2,u,(J _ _).2 H,by unfold gK at E ⊢;rw[K];exact E⟩
  ·rw[zI];have:dW k (-1) [(r.1:Int)*256] p=false:=by
    apply mK.2;intro hx;exact D (ZM.1 hx).1
   rw[this];simp
  ·obtain⟨p,s,B,F,C⟩:=h.ht k A hk i y ((J i y).1 L);refine⟨p,zI.2 ⟨s,?_⟩,B,F,C⟩;have:dW k (-1) [(r.1:Int)*256] p=false:=by
    apply mK.2;intro hx;have:=((m p).1 hx).2.1;omega
   rw[this];rfl
  ·rw[G,zI]at d;obtain⟨p,s,B,F,C⟩:=h.hr k A hk q d.1;refine⟨p,zI.2 ⟨s,?_⟩,B,F,C⟩;have:dW k (-1) [(r.1:Int)*256] p=false:=by
    apply mK.2;intro hx;have u:=((m p).1 hx).2.2;have H:=ga.gC q d.1;have E:=ga.gC r hr;have:q=r:=ga.gJ d.1 hr (x:=q.1) O O O O;subst this;simp at d
   rw[this];rfl
 ·rw[zB h0,e1 h0];exact HY hk h
theorem WI.tick (h:WI W)(hk:W.bV[k]?=some A):WI (W.put k (qz A) W.sp (wc (W.bV.set k (qz A)) W.held)):=by
 have ga:=h.ga k A hk;have t:=Oi ga;have D:=(cX.1 hk).1;have d:(W.bV.set k (qz A))[k]?=some (qz A):=zJ D;have bS:∀p∈W.held,p∈wc (W.bV.set k (qz A)) W.held↔(p.k=k->∀j:Nat,p.cls=j->fF (qz A) j (p.addr:Int)):=by
  intro p a;unfold wc;rw[zI];simp only[a,rU,mP,lx];by_cases hpk:p.k=k
  ·rw[hpk,d];simp only[true_implies];rcases h.hd hk a hpk with⟨h1,h2,r,hr,h3⟩|⟨j,c,h1,h2,h3,h4,h5⟩
   ·exact⟨λ_ j z=>O,λ_=>.inl h2⟩
   ·constructor
    ·intro hx i G;obtain rfl:i=j:=by omega
     rcases hx with hx|hx
     ·refine(t.tk i _).2 ⟨h4,λs=>?_⟩;rw[h5.2 s]at hx;cases hx
     ·rcases(GL t.ob.ga).1 hx with⟨j',hj'⟩|⟨r,hr,e⟩
      ·obtain⟨y,e,hf⟩:=((t.tk j' _).1 hj').1.find ga;obtain⟨L,H,b⟩:=h4.find ga;rw[hf]at b;have:j'=i:=by
        have:=congrArg Prod.fst (Option.some.inj b);simp only at this;omega
       rw[←this];exact hj'
      ·rw[t.ob.runs]at hr;have:=ga.gC r hr;have K:=Dp ga hr (x:=r.1*256) (zD _) O;obtain⟨L,H,b⟩:=h4.find ga;rw[e,K]at b;have:=congrArg Prod.fst (Option.some.inj b);simp only at this;omega
    ·intro hx;by_cases hm:p.eI=true
     ·exact .inr ((GL t.ob.ga).2 (.inl ⟨j,hx j h1⟩))
     ·exact .inl (by simpa using hm)
  ·constructor
   ·intro _ hx;exact(hpk hx).elim
   ·intro _;obtain⟨C,F,J⟩:=h.hf p a;rw[ze (Ne.symm hpk),F];rcases J with⟨h1,h2,_⟩|⟨j,c,_,_,_,h4,_⟩
    ·exact .inl h2
    ·exact .inr ((GL (h.ga _ C F)).2 (.inl ⟨j,h4⟩))
 have sub:∀p,p∈wc (W.bV.set k (qz A)) W.held->p∈W.held:=λp a=>(zI.1 a).1;refine h.step hk (t.ob.st (h.ow k A hk)) (Vv h.hk _) (λp a e=>?_) (λp m=>⟨sub p,λa=>(bS p a).2 λe=>(m e).elim⟩) (λj y E=>?_) λr hr=>?_
 ·have w:=(bS p (sub p a)).1 a e;rcases h.hd hk (sub p a) e with⟨h1,h2,r,hr,h3⟩|⟨j,c,h1,h2,h3,h4,h5⟩
  ·exact .inl ⟨h1,h2,r,by rw[t.ob.runs];exact hr,h3⟩
  ·have z:=w j h1;refine .inr ⟨j,c,h1,by rw[t.ob.kp.tb];exact h2,h3,z,?_⟩;rw[h5];exact⟨((t.tk j _).1 z).2,t.sub j _⟩
 ·obtain⟨p,a,B,u,g⟩:=h.ht k A hk j y ((t.tk j y).1 E).1;refine⟨p,(bS p a).2 λ_ i G=>?_,B,u,g⟩;obtain rfl:i=j:=by omega
  rw[g];exact E
 ·rw[t.ob.runs]at hr;obtain⟨p,a,B,u,g⟩:=h.hr k A hk r hr;exact⟨p,(bS p a).2 λ_ i G=>O,B,u,g⟩
theorem WI.nI (h:WI W){p:Pc}(hp:p∈W.held)(hk:W.bV[p.k]?=some A){x:Nat}(h1:p.addr<=x)(h2:x<p.addr+p.size):A.f (x/256)=1:=by
 have ga:=h.ga _ A hk;rcases h.hd hk hp rfl with⟨_,_,r,hr,e1,e2⟩|⟨j,c,_,hc,e1,ht,_⟩
 ·exact(ga.jc hr O O).1
 ·obtain⟨b,m,a,d⟩:=ht;have:b=c:=Option.some.inj (a.1.symm.trans hc);subst this;have g:=ga.cD j b m a;obtain⟨l,s,i,u,w,e,_⟩:=(VC g).1 d;have y:p.addr=at_ b s i:=Int.ofNat.inj e;have:=US g.pos w (s:=s) (x:=x) O O;exact(ga.used a (zG u) this.1 this.2).1
theorem WI.write (h:WI W){x v:Int}(hi:BY W.held x=true):WI {W with sp:=ZL W.sp x v}:=by
 unfold BY at hi;rw[jU]at hi;obtain⟨p,i,s⟩:=hi;simp only[zE,zS]at s;obtain⟨y,rfl⟩:=zY (show 0<=x by omega);obtain⟨A,hk,_⟩:=h.hf p i;have w:=h.nI i hk (x:=y) O O;have m:=(h.ow _ A hk).own (y/256) O;by_cases hacc:fG W.sp (y:Int)=0
 ·have e:(ZL W.sp (y:Int) v).st=W.sp.st.set (y/256) 2:=by
   unfold ZL;rw[zC hacc];show W.sp.st.set (_/32) 2=_;rw[dC,show y/8/32=y/256 by omega]
  have d:=Et m;have g:∀q,gf (ZL W.sp (y:Int) v).st q=if q=y/256 then 2 else gf W.sp.st q:=λq=>by
   rw[e];unfold gf;simp only[zN];by_cases a:q=y/256
   ·subst a;rw[zJ d,zC rfl];rfl
   ·rw[ze (Ne.symm a),zB a]
  have r:∀q,gf (ZL W.sp (y:Int) v).st q≠0↔gf W.sp.st q≠0:=λq=>by
   rw[g];split
   ·rename_i a;subst a;simp[m]
   ·exact Iff.rfl
  refine⟨h.ga,λj C b=>?_,h.tb,h.low,λq a=>h.own q ((r q).1 a),h.one,h.hk,h.hf,h.ht,h.hr⟩;have o:=h.ow j C b;refine⟨by show(ZL W.sp (y:Int) v).st.length=_;rw[e,nk];exact o.l,λq a=>(r q).2 (o.own q a),λq a=>?_,λq=>?_⟩
  ·show gf (ZL W.sp (y:Int) v).st q=1;rw[g,zB]
   ·exact o.cl q a
   ·rintro rfl;have u:j=p.k:=h.one (y/256) j p.k C A b hk O O;subst u;rw[hk]at b;cases b;omega
  ·show gf (ZL W.sp (y:Int) v).st q<=2;rw[g];have:=o.le q;split<;>omega
 ·have e:ZL W.sp (y:Int) v=W.sp:=by unfold ZL;rw[zB hacc]
  rw[e];exact h
theorem fF.lt (h:GA A){j:Nat}{x:Int}(hx:fF A j x):∃y:Nat,x=y/\y<262144:=by
 obtain⟨c,g,b,e⟩:=hx;have a:=h.cD j c g b;obtain⟨l,s,i,m,r,rfl,w⟩:=(VC a).1 e;have d:=US a.pos (s:=s) (x:=at_ c s i) r (zD _) (by have:=a.pos;omega);have u:=(h.used b (zG m) d.1 d.2).1;have:=h.pg.lt (p:=at_ c s i/256) O;have:=h.pg.n2;exact⟨_,rfl,O⟩
theorem WI.jr (h:WI W){p:Pc}(hp:p∈W.held):p.addr<262144/\p.addr+p.size<=270000:=by
 obtain⟨A,i,g⟩:=h.hf p hp;have ga:=h.ga _ A i;have w:=ga.pg.n2;rcases g with⟨_,_,r,hr,h1,h2⟩|⟨j,c,_,hc,h2,h3,_⟩
 ·have x:=ga.fit hr;have u:=ga.gC r hr;omega
 ·obtain⟨y,e,s⟩:=h3.lt ga;obtain⟨m,d,a,_⟩:=h3;have:m=c:=Option.some.inj (a.1.symm.trans hc);subst this;have b:=(ga.cD j _ d a).ok;unfold bZ.ok at b;omega
theorem BN:∀(N:Nat) (l:List Nat),l.Nodup->(∀x∈l,x<N)->l.length<=N
 | 0,l,_,h=>by
  cases l with
  | nil=>simp
  | cons x l=>have:=h x aA;omega
 | N+1,l,hn,h=>by
  have i:=BN N (l.filter (· != N)) (hn.sublist qU) λx b=>by
   have b:=zI.1 b;have:=h x b.1;have:x≠N:=by simpa using b.2
   omega
  have d:=List.length_eq_countP_add_countP (l:=l) (p:=(· != N));have g:l.countP (λa=>¬(a != N)=true)<=1:=by
   have e:l.countP (λa=>¬(a != N)=true)=l.count N:=by
    unfold List.count;apply List.countP_congr;intro x _;simp
   rw[e];exact xb.1 hn N
  rw[vp]at d;omega
theorem WI.apart (h:WI W){p q:Pc}(hp:p∈W.held)(hq:q∈W.held){x:Nat}(p1:p.addr<=x)(p2:x<p.addr+p.size)(q1:q.addr<=x)(q2:x<q.addr+q.size):p=q:=by
 obtain⟨A,y,J⟩:=h.hf p hp;obtain⟨B,m,D⟩:=h.hf q hq;have e1:=h.nI hp y p1 p2;have e2:=h.nI hq m q1 q2;have z:p.k=q.k:=h.one (x/256) p.k q.k A B y m O O;rw[←z,y]at m;cases m;have ga:=h.ga _ A y;have K:=ga.tb;have own:∀{r:Pc},Hd A r->r.addr<=x->x<r.addr+r.size->(r.cls = -1/\A.ow (x/256)=41/\∃u∈A.runs,r.addr=u.1*256/\u.1<=x/256/\x/256<u.1+u.2) ∨
  ∃(j:Nat) (c:bZ) (b:List cF) (l:Nat) (s:cF) (i:Nat),r.cls=j/\A.ow (x/256)=j+1/\Cl A j c b/\b[l]?=some s/\i<c.n/\r.addr=at_ c s i/\r.size=c.size:=by
  intro r hr r1 r2;rcases hr with⟨c1,_,u,hu,c2,c3⟩|⟨j,c,c1,c2,c3,c4,_⟩
  ·exact .inl ⟨c1,(ga.jc hu O O).2,u,hu,c2,O,O⟩
  ·obtain⟨d,b,a,G⟩:=c4;have:d=c:=Option.some.inj (a.1.symm.trans c2);subst this;have C:=ga.cD j d b a;obtain⟨l,s,i,E,F,e,_⟩:=(VC C).1 G;have H:r.addr=at_ d s i:=Int.ofNat.inj e;have g:=US C.pos (s:=s) (x:=x) F O O;exact .inr ⟨j,d,b,l,s,i,c1,(ga.used a (zG E) g.1 g.2).2,a,E,F,H,c3⟩
 refine h.unique hp hq ?_;rcases own J p1 p2 with⟨a1,a2,u,hu,a3,a4,a5⟩|⟨j,c,b,l,s,i,a1,a2,a3,a4,a5,a6,a7⟩
 ·rcases own D q1 q2 with⟨b1,b2,w,hw,b3,b4,b5⟩|⟨j',d,ss',l',s',i',b1,b2,b3,b4,b5,b6,b7⟩
  ·have:=ga.gJ hu hw a4 a5 b4 b5;subst this;unfold Pc.key;rw[z,a1,b1,a3,b3]
  ·have:=b3.lt;omega
 ·rcases own D q1 q2 with⟨b1,b2,w,hw,b3,b4,b5⟩|⟨j',d,ss',l',s',i',b1,b2,b3,b4,b5,b6,b7⟩
  ·have:=a3.lt;omega
  ·have L:j=j':=by omega
   subst L;obtain⟨rfl,rfl⟩:=a3.eq b3;have:=VT (ga.cD j c b a3) a4 b4 a5 b5 (x:=x) O O O O;unfold Pc.key;rw[z,a1,b1,a6,b6,this.2.1,this.2.2]
theorem WI.size_pos (h:WI W){p:Pc}(hp:p∈W.held):8<=p.size/\p.size%8=0:=by
 obtain⟨A,g,e⟩:=h.hf p hp;have ga:=h.ga _ A g;rcases e with⟨_,_,r,hr,h1,h2⟩|⟨j,c,_,hc,h2,h3,_⟩
 ·have m:=ga.gC r hr;omega
 ·obtain⟨i,d,a,_⟩:=h3;have:i=c:=Option.some.inj (a.1.symm.trans hc);subst this;have b:=(ga.cD j _ d a).ok;unfold bZ.ok at b;omega
theorem WI.len (h:WI W):W.held.length<=262144:=by
 have r:(W.held.map (·.addr)).Nodup:=by
  have u:=lu.1 h.hk;refine lu.2 λi j s w d e=>?_;have b:i<W.held.length:=by simpa using s
  have a:j<W.held.length:=by simpa using w
  refine u i j (by simpa using b) (by simpa using a) d ?_;simp only[qO]at e ⊢;have s1:=(h.size_pos (j3 b)).1;have s2:=(h.size_pos (j3 a)).1;rw[h.apart (j3 b) (j3 a) (x:=W.held[i].addr) (zD _) O O O]
 have:=BN 262144 _ r λx m=>by
  obtain⟨p,g,rfl⟩:=zF.1 m;exact(h.jr g).1
 simpa using this
end Go.Ar
namespace Go.Ar
open Go.Vc (bY dG di)
def ld (live:List (Int×Bk))(k x:Int):Nat:=live.countP λe=>e.2.2.2.1==k&&e.1==x
def k9 (ls:List Li)(k x:Int):Nat:=if 0<=k then(ls.getD k.toNat gS).os.count x else 0
def kZ (bs:List Bt)(k x:Int):Nat:=(bs.map λb=>if(b.1:Int)=k then b.2.count x else 0).sum
def jn (p:Option Ph)(k x:Int):Nat:=match p with
 | some (.dA s _)=>if k = -1/\x=s*256 then 1 else 0
 | _=>0
def gg (g:Th)(k x:Int):Nat:=k9 g.ls k x+kZ g.bP k x+jn g.ph k x
def oU (H:Hw)(k x:Int):Nat:=ld H.live k x+(H.bQ.map λg=>gg g k x).sum
def Um (held:List Pc)(k x:Int):Prop:=∃p∈held,p.eI=false/\p.cls=k/\(p.addr:Int)=x
open Classical in
noncomputable def ku (held:List Pc)(k x:Int):Nat:=if Um held k x then 1 else 0
theorem Ec (held:List Pc)(k x:Int):ku held k x<=1:=by unfold ku;split<;>omega
theorem yn {held:List Pc}{k x:Int}(h:1<=ku held k x):Um held k x:=by
 unfold ku at h;split at h
 ·assumption
 ·omega
theorem KX {held:List Pc}{k x:Int}(h:Um held k x):ku held k x=1:=by unfold ku;rw[zC h]
theorem QT {held:List Pc}{k x:Int}(h:¬Um held k x):ku held k x=0:=by unfold ku;rw[zB h]
theorem C7 {l:List Int}(hn:l.Nodup)(x:Int):l.count x=if x∈l then 1 else 0:=by
 split
 ·rename_i h;have b:=xb.1 hn x;have a:=Am.2 h;omega
 ·rename_i h;exact wF.2 h
theorem xh {held held':List Pc}{cl:Int}{l:List Int}(hn:l.Nodup)(h0:∀x∈l,¬Um held cl x)(h:∀k x,Um held' k x↔Um held k x\/(k=cl/\x∈l))(k x:Int):ku held' k x=ku held k x+(if cl=k then l.count x else 0):=by
 by_cases hk:cl=k
 ·subst hk;rw[zC rfl,C7 hn];by_cases hx:x∈l
  ·rw[zC hx,QT (h0 x hx),KX ((h _ _).2 (.inr ⟨rfl,hx⟩))]
  ·rw[zB hx,zz];by_cases hu:Um held cl x
   ·rw[KX hu,KX ((h _ _).2 (.inl hu))]
   ·rw[QT hu,QT λa=>by rcases(h _ _).1 a with a|⟨_,a⟩;exact hu a;exact hx a]
 ·rw[zB hk,zz];by_cases hu:Um held k x
  ·rw[KX hu,KX ((h _ _).2 (.inl hu))]
  ·rw[QT hu,QT λa=>by rcases(h _ _).1 a with a|⟨a,_⟩;exact hu a;exact hk a.symm]
theorem Bp {held held':List Pc}{cl:Int}{l:List Int}(hn:l.Nodup)(h0:∀x∈l,Um held cl x)(h:∀k x,Um held' k x↔Um held k x/\¬(k=cl/\x∈l))(k x:Int):ku held k x=ku held' k x+(if cl=k then l.count x else 0):=by
 by_cases hk:cl=k
 ·subst hk;rw[zC rfl,C7 hn];by_cases hx:x∈l
  ·rw[zC hx,KX (h0 x hx),QT λa=>((h _ _).1 a).2 ⟨rfl,hx⟩]
  ·rw[zB hx,zz];by_cases hu:Um held cl x
   ·rw[KX hu,KX ((h _ _).2 ⟨hu,λa=>hx a.2⟩)]
   ·rw[QT hu,QT λa=>hu ((h _ _).1 a).1]
 ·rw[zB hk,zz];by_cases hu:Um held k x
  ·rw[KX hu,KX ((h _ _).2 ⟨hu,λa=>hk a.1.symm⟩)]
  ·rw[QT hu,QT λa=>hu ((h _ _).1 a).1]
theorem BA {α:Type}(f:α->Nat):∀{l:List α} {t:Nat} {g:α} (g':α),l[t]?=some g->((l.set t g').map f).sum+f g=(l.map f).sum+f g'
 | [],t,g,g',h=>by simp at h
 | a::l,0,g,g',h=>by
  simp only[yk,Option.some.injEq]at h;subst h;simp only[List.set_cons_zero,zU,m7];omega
 | a::l,t+1,g,g',h=>by
  have:=BA f (l:=l) (t:=t) g' (by simpa using h);simp only[qe,zU,m7];omega
theorem xX {α:Type}(f:α->Nat){l:List α}{g:α}(h:g∈l):f g<=(l.map f).sum:=by
 induction l with
 | nil=>simp at h
 | cons a l ih=>
  simp only[zU,m7];rcases zX.1 h with rfl|h
  ·omega
  ·have:=ih h;omega
theorem GQ (ls:List Li)(k:Nat)(x:Int):k9 ls (k:Int) x=(ls.getD k gS).os.count x:=by
 unfold k9;rw[zC O,dC]
theorem CG {ls:List Li}{j:Nat}(l:Li)(k:Nat)(h:j<ls.length):(ls.set j l).getD k gS=if k=j then l else ls.getD k gS:=by
 rw[zN,mH];by_cases hkj:k=j
 ·subst hkj;simp[h]
 ·rw[zB hkj,zB (Ne.symm hkj),zN]
theorem Oy {ls:List Li}{j:Nat}(l:Li)(h:j<ls.length)(k x:Int):k9 (ls.set j l) k x+(if(j:Int)=k then(ls.getD j gS).os.count x else 0)=k9 ls k x+(if(j:Int)=k then l.os.count x else 0):=by
 by_cases hk:0<=k
 ·obtain⟨k,rfl⟩:=zY hk;rw[GQ,GQ,CG l k h];by_cases hjk:j=k
  ·subst hjk;simp;omega
  ·have:¬(j:Int)=(k:Int):=by omega
   rw[zB (Ne.symm hjk),zB this,zB this]
 ·unfold k9;rw[zB hk,zB hk,zB O,zB O]
theorem KV (k x:Int):kZ [] k x=0:=rfl
theorem Kd (b:Bt)(bs:List Bt)(k x:Int):kZ (b::bs) k x=(if(b.1:Int)=k then b.2.count x else 0)+kZ bs k x:=by
 unfold kZ;rw[zU,m7]
theorem DN (a b:List Bt)(k x:Int):kZ (a++b) k x=kZ a k x+kZ b k x:=by
 unfold kZ;rw[lI,List.sum_append]
theorem B4 {f:bZ->Li->List Int×Li}(hf:∀c l x,(f c l).1.count x+(f c l).2.os.count x=l.os.count x){tb:List bZ}{ls:List Li}(hl:ls.length=tb.length)(k x:Int):kZ (QO f tb ls) k x+k9 (QM f tb ls) k x=k9 ls k x:=by
 have key:∀n,n<=tb.length->kZ ((List.range n).filterMap λk=>match tb[k]?,ls[k]? with
  | some c,some l=>if(f c l).1=[]then none else some (k,(f c l).1)
  | _,_=>none) k x=if 0<=k/\k<(n:Int)then(match tb[k.toNat]?,ls[k.toNat]? with
  | some c,some l=>(f c l).1.count x
  | _,_=>0)else 0:=by
  intro n
  induction n with
  | zero=>intro _;rw[zB O];rfl
  | succ n i=>
   intro hn;have i:=i O;rw[pN,tO,DN,i];have d:tb[n]?=some tb[n]:=cW O;have a:ls[n]?=some ls[n]:=cW O;have e:kZ ([n].filterMap λk=>match tb[k]?,ls[k]? with
    | some c,some l=>if(f c l).1=[]then none else some (k,(f c l).1)
    | _,_=>none) k x=if(n:Int)=k then(f tb[n] ls[n]).1.count x else 0:=by
    rw[yl,d,a];simp only;by_cases he:(f tb[n] ls[n]).1=[]
    ·rw[zC he,he];simp[KV]
    ·rw[zB he];simp only[List.filterMap_nil,Kd,KV,zz]
   rw[e];by_cases b:0<=k/\k<(n:Int)
   ·rw[zC b,zB (show ¬(n:Int)=k by omega),zz,zC (show 0<=k/\k<((n+1:Nat):Int)from⟨b.1,O⟩)]
   ·rw[zB b,zH];by_cases g:(n:Int)=k
    ·subst g;rw[zC rfl,zC (show(0:Int)<=(n:Int)/\(n:Int)<((n+1:Nat):Int)from⟨O,O⟩),dC,d,a]
    ·rw[zB g,zB O]
 have b:=key tb.length (zD _);have e:QO f tb ls=(List.range tb.length).filterMap λk=>match tb[k]?,ls[k]? with
  | some c,some l=>if(f c l).1=[]then none else some (k,(f c l).1)
  | _,_=>none:=rfl
 rw[e,b];by_cases hk:0<=k
 ·obtain⟨k,rfl⟩:=zY hk;rw[GQ,GQ,dC];by_cases hkl:k<tb.length
  ·have d:tb[k]?=some tb[k]:=cW hkl;have a:ls[k]?=some ls[k]:=cW O;rw[zC ⟨O,O⟩,d,a];simp only;have:(QM f tb ls).getD k gS=(f tb[k] ls[k]).2:=by
    unfold QM;rw[zN,xI,d,a];rfl
   rw[this,zN,a];exact hf _ _ _
  ·rw[zB O,zH];have b:(QM f tb ls).getD k gS=gS:=by
    unfold QM;rw[zN,zT (by rw[List.length_zipWith];omega)];rfl
   have g:ls.getD k gS=gS:=by rw[zN,zT O];rfl
   rw[b,g]
 ·rw[zB O,zH];unfold k9;rw[zB hk,zB hk]
theorem An (m:Nat)(l:Li)(x:Int):(fU m l).1.count x+(fU m l).2.os.count x=l.os.count x:=by
 show(l.os.take m).count x+(l.os.drop m).count x=_;rw[←uF,mY]
theorem JI (c:bZ)(l:Li)(x:Int):(Kl c l).1.count x+(Kl c l).2.os.count x=l.os.count x:=An _ l x
theorem MY (c:bZ)(l:Li)(x:Int):(Zy c l).1.count x+(Zy c l).2.os.count x=l.os.count x:=An _ l x
theorem Le (c:bZ)(y:Int)(l:Li)(hl:l.os.length<=255)(x:Int):(dH c y l).1.count x+(dH c y l).2.os.count x=l.os.count x + [y].count x:=by
 have a:(dY [y] l).os=l.os++[y]:=by
  unfold dY;rw[zB aE]
 unfold dH;rw[zB O];split
 ·rw[a,List.count_nil,zH,uF]
 ·rw[An];have:(lC c (dY [y] l)).os=(dY [y] l).os:=by unfold lC;split<;>rfl
  rw[this,a,uF]
theorem DS {c:bZ}{l l':Li}{y:Int}(h:QP c l=(some y,l'))(x:Int):l.os.count x=l'.os.count x + [y].count x:=by
 unfold QP at h;split at h
 ·simp at h
 ·rename_i z hz;cases h;have:l.os=l.os.dropLast++[y]:=by
   obtain⟨b,a⟩:=List.getLast?_eq_some_iff.1 hz;rw[a];simp
  conv=>lhs;rw[this]
  rw[uF]
theorem IB {c:bZ}{l l':Li}(h:QP c l=(none,l')):l.os=[]/\l'.os=[]:=by
 unfold QP at h;split at h
 ·rename_i hz;have:l.os=[]:=by simpa using hz
  cases h;refine⟨this,?_⟩;split<;>exact this
 ·simp at h
theorem xp {live:List (Int×Bk)}{x:Int}(b:Bk)(h:bY live x=none)(k y:Int):ld (dG live x b) k y=ld live k y+(if b.2.2.1=k then[x].count y else 0):=by
 have a:live.any (λe=>e.1==x)=false:=by
  rw[lN];intro e he hx;unfold bY at h;rw[sS,oM]at h;exact h e he hx
 unfold dG;rw[a,zB aA];unfold ld;rw[List.countP_append]
 congr 1
 rw[uI,List.countP_nil,zH];by_cases h1:b.2.2.1=k
 ·by_cases h2:x=y
  ·subst h2;simp[h1]
  ·simp[h1,h2]
 ·simp[h1]
theorem HV {live:List (Int×Bk)}{x:Int}{b:Bk}(h:bY live x=none){e:Int×Bk}:e∈dG live x b↔e∈live\/e=(x,b):=by
 have a:live.any (λe=>e.1==x)=false:=by
  rw[lN];intro e he hx;unfold bY at h;rw[sS,oM]at h;exact h e he hx
 unfold dG;rw[a,zB aA,zL,zR]
theorem HN {live:List (Int×Bk)}{x:Int}{e:Int×Bk}:e∈di live x↔e∈live/\e.1≠x:=by
 unfold di;rw[zI];simp
theorem xB:∀{live:List (Int×Bk)} {x:Int} {b:Bk},(live.map (·.1)).Nodup->bY live x=some b->∀k y,ld live k y=ld (di live x) k y+(if b.2.2.1=k then[x].count y else 0)
 | [],x,b,_,h,_,_=>by simp[bY]at h
 | e::l,x,b,hn,h,k,y=>by
  rw[zU,zt]at hn;by_cases he:e.1=x
  ·have hb:e.2=b:=by
    unfold bY at h;rw[List.find?_cons_of_pos (by simpa using he)]at h;simpa using h
   have hd:di (e::l) x=l:=by
    unfold di;rw[wO (by simpa using he),oV];intro a ha;have:a.1≠x:=λi=>hn.1 (zF.2 ⟨a,ha,i.trans he.symm⟩);simpa using this
   rw[hd];unfold ld;rw[uI,hb,he]
   congr 1
   by_cases h1:b.2.2.1=k
   ·by_cases h2:x=y
    ·subst h2;simp[h1]
    ·simp[h1,h2]
   ·simp[h1]
  ·have g:bY l x=some b:=by
    unfold bY at h ⊢
    rwa [List.find?_cons_of_neg (by simpa using he)]at h
   have d:=xB hn.2 g k y;have hd:di (e::l) x=e::di l x:=by
    unfold di;rw[wA (by simpa using he)]
   rw[hd];unfold ld at d ⊢;rw[uI,uI,d];omega
theorem D4 {live:List (Int×Bk)}{e:Int×Bk}(h:e∈live):1<=ld live e.2.2.2.1 e.1:=by
 unfold ld;exact List.countP_pos_iff.2 ⟨e,h,by simp⟩
structure je (s s':Sp):Prop where
 l:s'.st.length=s.st.length
 z:∀p,gf s'.st p=0↔gf s.st p=0
 w:s'.wd=s.wd
def gW (m:Nat)(g:Th):Prop:=match g.ph with
 | none=>g.bP=[]
 | some (.take k)=>g.bP=[]/\k<m
 | some (.cH k w)=>g.bP=[]/\k<m/\(g.li k).os=[]/\1<=w/\w<=32
 | some (.cI k w)=>g.bP=[]/\k<m/\(g.li k).os=[]/\1<=w/\w<=32
 | some (.grow k w)=>g.bP=[]/\k<m/\(g.li k).os=[]/\1<=w/\w<=32
 | some .fill=>∃k x xs,g.bP=[(k,x::xs)]/\k<m/\(g.li k).os=[]/\xs.length<=128
 | some (.eB n)=>g.bP=[]/\1<=n/\n<=64
 | some (.find x)=>g.bP=[]/\iu x
 | some (.put k x)=>g.bP=[(k,[x])]/\k<m
 | some .back=>g.bP≠[]
 | some (.dA _ _)=>g.bP=[]
 | some .drain=>g.bP=[]
structure qF (m:Nat) (g:Th):Prop where
 ll:g.ls.length=m
 lo:∀l∈g.ls,fD l/\l.os.length<=128
 hb:∀b∈g.bP,b.1<m/\b.2≠[]/\b.2.length<=256
 hl:g.bP.length<=41
 ph:gW m g
def Lv (held:List Pc)(e:Int×Bk):Prop:=e.2.1=e.1/\∃p∈held,p.eI=false/\p.cls=e.2.2.2.1/\(p.addr:Int)=e.1/\e.2.2.1=(p.size:Int)/\e.2.2.2.2=(p.k:Int)
def Gv (held:List Pc)(s a:Int):Prop:=∃p∈held,p.eI=false/\p.cls = -1/\(p.addr:Int)=s*256/\a=(p.k:Int)
structure HI (H:Hw) (held:List Pc) (s0:Sp):Prop where
 wi:WI ⟨H.tb,s0,H.bV,held⟩
 mn:je s0 H.sp
 cn:∀k x,oU H k x=ku held k x
 lk:(H.live.map (·.1)).Nodup
 lv:∀e∈H.live,Lv held e
 gv:∀g∈H.bQ,∀s a,g.ph=some (.dA s a)->Gv held s a
 th:∀g∈H.bQ,qF H.tb.length g
 ok:∀c∈H.tb,c.ok
 a1:1<=H.bV.length
 sl:H.sp.st.length=H.cf.aF
variable {H:Hw}{held:List Pc}{s0:Sp}{t k:Nat}{g:Th}{A:AR}
theorem je.refl (s:Sp):je s s:=⟨rfl,λ_=>Iff.rfl,rfl⟩
theorem HI.apart (h:HI H held s0){p q:Pc}(hp:p∈held)(hq:q∈held){x:Nat}(p1:p.addr<=x)(p2:x<p.addr+p.size)(q1:q.addr<=x)(q2:x<q.addr+q.size):p=q:=h.wi.apart hp hq p1 p2 q1 q2
theorem WI.same {W:Wd}(h:WI W){p q:Pc}(hp:p∈W.held)(hq:q∈W.held)(e:p.addr=q.addr):p=q:=by
 have b:=(h.size_pos hp).1;have a:=(h.size_pos hq).1;exact h.apart hp hq (x:=p.addr) (zD _) O O O
theorem WI.um {W:Wd}(h:WI W){p:Pc}(hp:p∈W.held){k x:Int}(hu:Um W.held k x)(e:(p.addr:Int)=x):p.eI=false/\p.cls=k:=by
 obtain⟨q,a,b,d,g⟩:=hu;obtain rfl:=h.same hp a O;exact⟨b,d⟩
theorem HI.l8 (h:HI H held s0){e:Int×Bk}(he:e∈H.live):Um held e.2.2.2.1 e.1:=by
 obtain⟨_,p,g,a,d,b,_⟩:=h.lv e he;exact⟨p,g,a,d,b⟩
theorem HI.nj (h:HI H held s0){g:Th}(hg:g∈H.bQ)(k x:Int):gg g k x<=ku held k x:=by
 rw[←h.cn];unfold oU;have:=xX (λg=>gg g k x) hg;omega
theorem HI.pj (h:HI H held s0){g:Th}(hg:g∈H.bQ){k x:Int}(hc:1<=gg g k x):Um held k x:=yn (ky hc (h.nj hg k x))
theorem HI.kT (h:HI H held s0){g:Th}(hg:g∈H.bQ){k x:Int}(hc:1<=gg g k x):bY H.live x=none:=by
 cases hm:bY H.live x with
 | none=>rfl
 | some b=>
  have a:=V1 hm;have j:=h.pj hg hc;obtain⟨q,r,w,m,s⟩:=h.l8 a;have i:k=b.2.2.1:=by
   have:=(h.wi.um (W:=⟨H.tb,s0,H.bV,held⟩) r j s).2;exact this.symm.trans m
  have u:=D4 a;have d:=h.cn k x;have p:=Ec held k x;have e:=xX (λg=>gg g k x) hg;simp only at u e;unfold oU at d;rw[i]at d p e hc;omega
theorem HI.rE (h:HI H held s0){x:Int}(hn:∀k,¬Um held k x):bY H.live x=none:=by
 cases hm:bY H.live x with
 | none=>rfl
 | some b=>exact(hn _ (h.l8 (V1 hm))).elim
theorem HI.fH (h:HI H held s0)(hg:H.bQ[t]?=some g){g':Th}{live':List (Int×Bk)}{s0' sp':Sp}{ars':List AR}{held':List Pc}(wi:WI ⟨H.tb,s0',ars',held'⟩)(mn:je s0' sp')(hsl:sp'.st.length=H.sp.st.length)(hl:ars'.length=H.bV.length)
 (sub:∀p∈held',p.eI=false->p∈held\/∀k,¬Um held k (p.addr:Int))
 (cn:∀k x,ld live' k x+gg g' k x+ku held k x=ld H.live k x+gg g k x+ku held' k x)
 (lk:(live'.map (·.1)).Nodup) (lv:∀e∈live',e∈H.live\/Lv held' e) (gv:∀s a,g'.ph=some (.dA s a)->Gv held' s a) (th:qF H.tb.length g') :
 HI {H with live:=live',sp:=sp',bV:=ars',bQ:=H.bQ.set t g'} held' s0':=by
 have r:∀k x,oU {H with live:=live',sp:=sp',bV:=ars',bQ:=H.bQ.set t g'} k x=ku held' k x:=λk x=>by
  have i:=h.cn k x;have u:=cn k x;have b:=BA (λg=>gg g k x) g' hg;unfold oU at i ⊢;simp only at b ⊢;omega
 have F:=(cX.1 hg).1;have bS:∀p∈held,p.eI=false->Um held' p.cls (p.addr:Int)->p∈held':=λp m D ⟨q,A,i,u,b⟩=>by
  rcases sub q A i with hs|hs
  ·have:q=p:=h.wi.same (W:=⟨H.tb,s0,H.bV,held⟩) hs m O;rw[←this];exact A
  ·exact(hs p.cls ⟨p,m,D,rfl,b.symm⟩).elim
 refine⟨wi,mn,r,lk,λe B=>?_,λw d s a m=>?_,λw d=>?_,h.ok,by simp only;rw[hl];exact h.a1,hsl.trans h.sl⟩
 ·rcases lv e B with he'|he'
  ·obtain⟨E,p,m,i,u,b,z⟩:=h.lv e he';refine⟨E,p,bS p m i ?_,i,u,b,z⟩;rw[u,b];apply yn;rw[←r];have:1<=ld live' e.2.2.2.1 e.1:=D4 B;unfold oU;simp only;omega
  ·exact he'
 ·rcases List.mem_iff_getElem?.1 d with⟨j,hj⟩;rcases KF hj with⟨rfl,rfl,_⟩|⟨hne,hj'⟩
  ·exact gv s a m
  ·obtain⟨p,y,i,u,b,z⟩:=h.gv w (zG hj') s a m;refine⟨p,bS p y i ?_,i,u,b,z⟩;rw[u,b];apply yn;rw[←r];have C:=xX (λg=>gg g (-1) (s*256)) d;have G:1<=gg w (-1) (s*256):=by unfold gg;rw[m];simp[jn]
   unfold oU;simp only at C ⊢;omega
 ·rcases List.mem_iff_getElem?.1 d with⟨j,hj⟩;rcases KF hj with⟨rfl,rfl,_⟩|⟨hne,hj'⟩
  ·exact th
  ·exact h.th w (zG hj')
theorem HI.jR (h:HI H held s0)(hg:H.bQ[t]?=some g){g':Th}{live':List (Int×Bk)}(cn:∀k x,ld live' k x+gg g' k x=ld H.live k x+gg g k x)(lk:(live'.map (·.1)).Nodup)(lv:∀e∈live',e∈H.live\/Lv held e)
 (gv:∀s a,g'.ph=some (.dA s a)->Gv held s a) (th:qF H.tb.length g'):HI {H with live:=live',bQ:=H.bQ.set t g'} held s0:=
 h.fH hg h.wi h.mn rfl rfl (λp b _=>.inl b) (λk x=>by have:=cn k x;omega) lk lv gv th
theorem OO {A:AR}{x:Int}:H9 A x=true↔0<=x/\A.f x.toNat≠0:=by
 unfold H9 AR.f gf;simp
theorem WI.owner {W:Wd}(h:WI W){p:Pc}(hp:p∈W.held){x:Nat}(h1:p.addr<=x)(h2:x<p.addr+p.size):Yf W.bV (x:Int)=(p.k:Int):=by
 obtain⟨A,b,_⟩:=h.hf p hp;have g:=h.nI hp b h1 h2;have a:=(cX.1 b).1;have own:∀(j:Nat) (B:AR),W.bV[j]?=some B->(H9 B ((x:Int)/256)=true↔j=p.k):=λj B d=>by
  have e:((x:Int)/256).toNat=x/256:=by omega
  rw[OO,e];constructor
  ·rintro⟨_,hf⟩;exact h.one (x/256) j p.k B A d b hf O
  ·rintro rfl;rw[b]at d;cases d;exact⟨O,O⟩
 unfold Yf;rw[zB O];have hf:W.bV.findIdx? (λA=>H9 A ((x:Int)/256))=some p.k:=by
  rw[mQ];refine⟨a,(own p.k _ (cW a)).2 rfl,λj i=>?_⟩;have:=own j W.bV[j] (cW O);intro hx;have:=this.1 hx;omega
 rw[hf]
theorem HI.owner (h:HI H held s0){p:Pc}(hp:p∈held){x:Nat}(h1:p.addr<=x)(h2:x<p.addr+p.size):Yf H.bV (x:Int)=(p.k:Int):=h.wi.owner (W:=⟨H.tb,s0,H.bV,held⟩) hp h1 h2
theorem HI.nU (h:HI H held s0){p:Pc}(hp:p∈held):Yf H.bV (p.addr:Int)=(p.k:Int):=h.owner hp (zD _) (by have:=(h.wi.size_pos (W:=⟨H.tb,s0,H.bV,held⟩) hp).1;omega)
theorem HI.i63 (h:HI H held s0){k x:Int}(hu:Um held k x):iu x/\0<=x/\0<=Yf H.bV x:=by
 obtain⟨p,a,_,_,rfl⟩:=hu;have:=(h.wi.jr (W:=⟨H.tb,s0,H.bV,held⟩) a).1;refine⟨by unfold iu;omega,O,?_⟩;rw[h.nU a];omega
end Go.Ar
namespace Go.Ar
open Go.Vc (bY dG di)
open Go.Bu (Y4)
structure KS (s s':Sp):Prop where
 l:s'.st.length=s.st.length
 k:∀p,gf s.st p≠0->gf s'.st p≠0/\∀w,w/32=p->s'.wd w=s.wd w
theorem KS.refl (s:Sp):KS s s:=⟨rfl,λp a=>⟨a,λ_ _=>rfl⟩⟩
theorem KS.trans {a b c:Sp}(h:KS a b)(k:KS b c):KS a c:=⟨k.l.trans h.l,λp d=>⟨(k.k p (h.k p d).1).1,λw e=>((k.k p (h.k p d).1).2 w e).trans ((h.k p d).2 w e)⟩⟩
variable {s s' sp sp' s0 s0':Sp}{A B:AR}{k:Nat}
theorem je.mz (h:je s s'):s'.st.map (λx=>decide (x=0))=s.st.map λx=>decide (x=0):=by
 refine zm λi=>?_;rw[zd,zd];have a:=h.z i;unfold gf at a;rw[zN,zN]at a;by_cases hi:i<s.st.length
 ·have b:i<s'.st.length:=by rw[h.l];exact hi
  rw[cW hi,cW b]at a ⊢;simp only[oB]at a;simp[a]
 ·have d:=h.l;rw[zT O,zT O]
theorem N3 {l l':List Nat}(h:l'.map (λx=>decide (x=0))=l.map λx=>decide (x=0))(a m:Nat)(f:Bool->Bool):((l'.drop a).take m).any (λx=>f (decide (x=0)))=((l.drop a).take m).any λx=>f (decide (x=0)):=by
 have e:∀l:List Nat,((l.drop a).take m).any (λx=>f (decide (x=0)))=(((l.map λx=>decide (x=0)).drop a).take m).any f:=λl=>by
  rw[←List.map_drop,←List.map_take,List.any_map];rfl
 rw[e,e,h]
theorem je.eT (h:je s s')(a m:Int):eT s' a m=eT s a m:=by
 unfold Go.Ar.eT;rw[h.l];have:=N3 h.mz a.toNat m.toNat (λb=>!b);have e:∀l:List Nat,l.any (λx=>x != 0)=l.any λx=>!decide (x=0):=λl=>by
  refine congrArg l.any (funext λx=>?_);cases x<;>rfl
 rw[e,e,this]
theorem je.set (h:je s s'){a m v:Nat}(hl:a+m<=s.st.length):je (s.set a m v) (s'.set a m v):=by
 refine⟨by simp[Sp.set,Ki,h.l],λp=>?_,?_⟩
 ·show gf (fW s'.st a (a+m) v) p=0↔gf (fW s.st a (a+m) v) p=0;rw[sB (by rw[h.l];exact hl),sB hl];split
  ·exact Iff.rfl
  ·exact h.z p
 ·show(λw=>if a*32<=w/\w<(a+m)*32 then 0 else s'.wd w)=_
  rw[h.w];rfl
theorem LO {n:Nat}{a m:Int}(h:Y4 n a m=true):a.toNat+m.toNat<=n:=by
 by_cases h0:0<=a/\0<=m
 ·obtain⟨a,rfl⟩:=zY h0.1;obtain⟨m,rfl⟩:=zY h0.2;rw[dC,dC];exact(VL.1 h).2
 ·exfalso;unfold Y4 at h;simp at h;omega
theorem je.fN (h:je s s')(a m:Int):je (fN s a m) (fN s' a m):=by
 unfold Go.Ar.fN;rw[h.eT];split
 ·rename_i h0;refine h.set ?_;unfold Go.Ar.eT at h0;split at h0
  ·rename_i hr;exact LO hr
  ·simp at h0
 ·exact h
theorem C8 (s:Sp)(a m:Nat):KS s (fN s (a:Int) (m:Int)):=by
 by_cases h:eT s (a:Int) (m:Int)=0
 ·have r:=Gg h;obtain⟨j,g,i,_⟩:=Cu h;refine⟨j,λp d=>?_⟩;have b:¬(a<=p/\p<a+m):=λe=>d (r.2.2 p e.1 e.2);exact⟨by rw[g,zB b];exact d,λw u=>i w O⟩
 ·unfold fN;rw[zB h];exact KS.refl s
theorem je.cU (h:je s s')(size:Nat):cU s' size=cU s size:=by
 unfold Go.Ar.cU;rw[h.l]
 congr 1
 funext x
 rw[h.eT]
theorem je.cV (h:je s s')(A:AR)(m a no:Nat):(cV A s' m a no).1=(cV A s m a no).1/\(cV A s' m a no).2.1=(cV A s m a no).2.1/\je (cV A s m a no).2.2 (cV A s' m a no).2.2/\KS s' (cV A s' m a no).2.2:=by
 unfold Go.Ar.cV;split
 ·exact⟨rfl,rfl,h,KS.refl _⟩
 ·unfold Ud;rw[h.cU];cases hg:Go.Ar.cU s (QG (max m a))with
  | none=>exact⟨rfl,rfl,h,KS.refl _⟩
  | some x=>
   simp only;split
   ·exact⟨rfl,rfl,h.fN _ _,C8 _ _ _⟩
   ·exact⟨rfl,rfl,h.fN _ _,C8 _ _ _⟩
theorem je.cL (h:je s s')(A:AR)(k:Int):(cL A s' k).1=(cL A s k).1/\Ks A s' k=Ks A s k/\je (cL A s k).2 (cL A s' k).2/\KS s' (cL A s' k).2:=by
 unfold Go.Ar.cL Ks;split
 ·split
  ·rename_i c ss _ _;obtain⟨b,e,a,d⟩:=h.cV A c.aF 1 (k.toNat+1);cases e1:Go.Ar.cV A s c.aF 1 (k.toNat+1)with
   | mk o1 r1=>cases e2:Go.Ar.cV A s' c.aF 1 (k.toNat+1)with
    | mk o2 r2=>
     obtain⟨m,g⟩:=r1;obtain⟨j,i⟩:=r2;rw[e1,e2]at b e a;rw[e2]at d;simp only at b e a d;subst b;subst e;cases o2<;>exact⟨rfl,rfl,a,d⟩
  ·exact⟨rfl,rfl,h,KS.refl _⟩
 ·exact⟨rfl,rfl,h,KS.refl _⟩
theorem je.cA (h:je s s')(A:AR)(m a:Int):(cA A s' m a).1=(cA A s m a).1/\Qd A s' m a=Qd A s m a/\ZO A s' m a=ZO A s m a/\je (cA A s m a).2 (cA A s' m a).2/\KS s' (cA A s' m a).2:=by
 unfold Go.Ar.cA Qd ZO;split
 ·obtain⟨d,g,b,e⟩:=h.cV A m.toNat a.toNat 41;cases e1:Go.Ar.cV A s m.toNat a.toNat 41 with
  | mk o1 r1=>cases e2:Go.Ar.cV A s' m.toNat a.toNat 41 with
   | mk o2 r2=>
    obtain⟨r,i⟩:=r1;obtain⟨p,j⟩:=r2;rw[e1,e2]at d g b;rw[e2]at e;simp only at d g b e;subst d;subst g;cases o2<;>exact⟨rfl,rfl,rfl,b,e⟩
 ·exact⟨rfl,rfl,rfl,h,KS.refl _⟩
variable {W:Wd}
theorem JK (h:WI W){cl:Int}{l:List Int}(ho:iW W.held k cl l=true)(c x:Int):Um (W.held.filter λp=>!dW k cl l p) c x↔Um W.held c x/\¬(c=cl/\x∈l):=by
 constructor
 ·rintro⟨p,hp,h1,h2,h3⟩;obtain⟨a,d⟩:=zI.1 hp;refine⟨⟨p,a,h1,h2,h3⟩,?_⟩;rintro⟨rfl,b⟩;obtain⟨q,j,e⟩:=(Ke.1 ho).1 x b;obtain⟨i,r,s,u⟩:=Kc.1 e;obtain rfl:=h.same (p:=p) (q:=q) a j O;have:dW k c l p=true:=ZM.2 ⟨i,h2,by rw[h3];exact b⟩;rw[this]at d;cases d
 ·rintro⟨⟨p,hp,h1,h2,h3⟩,d⟩;refine⟨p,zI.2 ⟨hp,?_⟩,h1,h2,h3⟩;have:dW k cl l p=false:=mK.2 λb=>by
   obtain⟨_,m,g⟩:=ZM.1 b;exact d ⟨h2.symm.trans m,by rw[←h3];exact g⟩
  rw[this];rfl
theorem Nu {held:List Pc}{cl:Int}{l:List Int}(ho:iW held k cl l=true):∀x∈l,Um held cl x:=λx b=>by
 obtain⟨q,e,a⟩:=(Ke.1 ho).1 x b;obtain⟨j,d,g,i⟩:=Kc.1 a;exact⟨q,e,i,d,g⟩
theorem F7 (h:WI W){cl:Int}{l:List Int}(ho:iW W.held k cl l=true)(c x:Int):Um (U1 W.held k cl l true) c x↔Um W.held c x/\¬(c=cl/\x∈l):=by
 constructor
 ·rintro⟨p,hp,h1,h2,h3⟩;obtain⟨q,b,rfl⟩:=Qo.1 hp;by_cases hof:dW k cl l q=true
  ·rw[zC hof]at h1;cases h1
  ·rw[zB hof]at h1 h2 h3;refine⟨⟨q,b,h1,h2,h3⟩,?_⟩;rintro⟨rfl,hx⟩;obtain⟨r,g,a⟩:=(Ke.1 ho).1 x hx;obtain⟨e,j,m,s⟩:=Kc.1 a;obtain rfl:=h.same b g O;exact hof (ZM.2 ⟨e,h2,by rw[h3];exact hx⟩)
 ·rintro⟨⟨p,hp,h1,h2,h3⟩,hn⟩;refine⟨p,Qo.2 ⟨p,hp,?_⟩,h1,h2,h3⟩;rw[zB];intro hx;obtain⟨_,i,d⟩:=ZM.1 hx;exact hn ⟨h2.symm.trans i,by rw[←h3];exact d⟩
theorem Pu {held:List Pc}{cl:Int}{l:List Int}:∀p∈U1 held k cl l true,p.eI=false->p∈held:=λp d a=>by
 obtain⟨q,b,rfl⟩:=Qo.1 d;by_cases hof:dW k cl l q=true
 ·rw[zC hof]at a;cases a
 ·rw[zB hof];exact b
theorem LF (h:WI W)(hk:W.bV[k]?=some A){j:Nat}:(∀x∈Yg A (j:Int),∀c,¬Um W.held c x)/\(Yg A (j:Int)).Nodup/\(∀c x,Um (U1 W.held k j (Yg A (j:Int)) false) c x↔Um W.held c x\/(c=j/\x∈Yg A (j:Int))) ∧
 (∀p∈U1 W.held k j (Yg A (j:Int)) false,p.eI=false->p∈W.held\/∀c,¬Um W.held c (p.addr:Int)):=by
 obtain⟨o,e1,e2,G,L,J⟩:=Dx (h.ga k A hk) (j:Int);rw[dC]at e2;have w:∀x∈Yg A (j:Int),∃q∈W.held,q.k=k/\q.cls=j/\(q.addr:Int)=x/\q.eI=true:=λx d=>by
  have s:=e2 x d;obtain⟨t,ht,g⟩:=s;have r:j<A.tb.length:=by rw[←(h.ga k A hk).lt];exact(cX.1 ht).1
  obtain⟨c,C,M,y,E⟩:=(h.ga k A hk).cl r;have u:fF A j x:=(KH y).2 ((h.ga k A hk).ln j c C t y ht x g);obtain⟨q,a,m,i,b⟩:=h.ht k A hk j x u;obtain⟨_,_,_,_,D⟩:=h.cls a i (by rw[m];exact hk);exact⟨q,a,m,i,b,D.2 (by rw[b];exact⟨t,ht,g⟩)⟩
 have new:∀x∈Yg A (j:Int),∀c,¬Um W.held c x:=λx d c H=>by
  obtain⟨q,a,_,_,b,z⟩:=w x d;have:=(h.um a H b).1;rw[z]at this;cases this
 refine⟨new,G,λc x=>⟨?_,?_⟩,λp e K=>?_⟩
 ·rintro⟨p,e,h1,h2,h3⟩;obtain⟨q,a,rfl⟩:=Qo.1 e;by_cases hof:dW k (j:Int) (Yg A (j:Int)) q=true
  ·rw[zC hof]at h2 h3;obtain⟨_,F,B⟩:=ZM.1 hof;exact .inr ⟨h2.symm.trans F,by rw[←h3];exact B⟩
  ·rw[zB hof]at h1 h2 h3;exact .inl ⟨q,a,h1,h2,h3⟩
 ·rintro(⟨p,e,h1,h2,h3⟩|⟨rfl,d⟩)
  ·refine⟨p,Qo.2 ⟨p,e,?_⟩,h1,h2,h3⟩;split
   ·rw[←h1]
   ·rfl
  ·obtain⟨q,a,m,i,b,z⟩:=w x d;refine⟨{q with eI:=false},Qo.2 ⟨q,a,?_⟩,rfl,i,b⟩;rw[zC (ZM.2 ⟨m,i,by rw[b];exact d⟩)]
 ·obtain⟨q,a,rfl⟩:=Qo.1 e;by_cases hof:dW k (j:Int) (Yg A (j:Int)) q=true
  ·rw[zC hof];exact .inr (new _ (ZM.1 hof).2.2)
  ·rw[zB hof];exact .inl a
theorem xf {tb:List bZ}{bV:List AR}{sp:Sp}{held new:List Pc}(h:WI ⟨tb,sp,bV,held++new⟩):∀p∈new,∀c,¬Um held c (p.addr:Int):=by
 rintro p b c ⟨q,d,_,_,g⟩;have e:=h.same (p:=p) (q:=q) (mU _ b) (kv _ d) O;have a:=h.hk;simp only[lI]at a;rw[nL]at a;exact a.2.2 q.key (zF.2 ⟨q,d,rfl⟩) p.key (zF.2 ⟨p,b,rfl⟩) (by rw[e])
theorem C9 {held new:List Pc}{cl:Int}{l:List Int}(h1:∀p∈new,p.eI=false/\p.cls=cl/\(p.addr:Int)∈l)(h2:∀x∈l,∃p∈new,(p.addr:Int)=x)(c x:Int):Um (held++new) c x↔Um held c x\/(c=cl/\x∈l):=by
 constructor
 ·rintro⟨p,b,a1,a2,a3⟩;rcases zL.1 b with b|b
  ·exact .inl ⟨p,b,a1,a2,a3⟩
  ·obtain⟨_,g,d⟩:=h1 p b;exact .inr ⟨a2.symm.trans g,by rw[←a3];exact d⟩
 ·rintro(⟨p,b,a⟩|⟨rfl,hx⟩)
  ·exact⟨p,kv _ b,a⟩
  ·obtain⟨p,b,e⟩:=h2 x hx;exact⟨p,mU _ b,(h1 p b).1,(h1 p b).2.1,e⟩
theorem Dg {tb:List bZ}{bV:List AR}{sp:Sp}{held new:List Pc}(h:WI ⟨tb,sp,bV,held++new⟩):∀p∈held++new,p.eI=false->p∈held\/∀c,¬Um held c (p.addr:Int):=λp a _=>by
 rcases zL.1 a with a|a
 ·exact .inl a
 ·exact .inr (xf h p a)
theorem Kv {ss:List cF}:∀{i:Nat},Y3 ss i=none->∀k,k<i->∀s,ss[k]?=some s->¬s.many<s.tk.length
 | 0,_,k,hk,_,_=>by omega
 | i+1,h,k,hk,s,hs=>by
  unfold Y3 at h;by_cases hki:k=i
  ·subst hki;rw[hs]at h;simp only at h;intro hlt;rw[zC hlt]at h;split at h
   ·split at h
    ·split at h<;>cases h
    ·cases h
   ·cases h
  ·cases hi:ss[i]? with
   | none=>
    rw[hi]at h;exact Kv h k O s hs
   | some x=>
    rw[hi]at h;simp only at h;split at h
    ·split at h
     ·split at h
      ·split at h<;>cases h
      ·cases h
     ·exact Kv (by assumption) k O s hs
    ·exact Kv h k O s hs
theorem Ic (h:GA A)(hw:Ow A sp){j:Nat}(hE:Ks A sp (j:Int)=0){w:Nat}(h1:1<=w):X1 (cL A sp (j:Int)).1 (j:Int) (w:Int)≠[]:=by
 rcases Gb h hw (j:Int)with⟨_,hn⟩|⟨j',c,ss,x,A1,sp1,hj,hk,hk1,_,e,hst,r1,r2,r3,_,hd,hS⟩
 ·exact(hn hE).elim
 ·obtain rfl:j=j':=by omega
  have a:Cl (cL A sp (j:Int)).1 j c (gU c ss x):=by
   rw[e];have u:Cl (dN A1 x c.aF (j+1)) j c ss:=hk1;exact Uo u _
  have B:=hS.ga.cD j c _ a;have b:(⟨x,List.replicate c.n false⟩:cF)∈gU c ss x:=KQ.2 (.inl rfl);have d:(cL A sp (j:Int)).1.ck (j:Int)=true:=UE.2 ⟨j,rfl,a.lt⟩;unfold X1 Qh KP;rw[d,zC rfl,zB (show ¬((w:Int)<0) by omega),zC rfl,dC,dC,a.1,a.2];simp only;obtain⟨w,rfl⟩:∃v,w=v+1:=⟨w-1,O⟩;cases ho:iG c (gU c ss x)with
  | some r=>
   obtain⟨y,E⟩:=r;rw[UU ho];simp
  | none=>
   exfalso;unfold iG iy at ho;obtain⟨l,z⟩:=zO b;have m:=(cX.1 z).1;have g:(⟨x,List.replicate c.n false⟩:cF).many<(⟨x,List.replicate c.n false⟩:cF).tk.length:=by
    have:=B.ok.qn;simp[cF.many,wq];omega
   cases hb:Y3 (gU c ss x) (gU c ss x).length with
   | none=>exact Kv hb l m _ z g
   | some i=>
    rw[hb]at ho;obtain⟨_,s,C,p⟩:=Qw hb;obtain⟨r,D,_⟩:=HG p;simp only[C,D]at ho;cases ho
end Go.Ar
namespace Go.Ar
open Go.Vc (bY dG di)
variable {H:Hw}{held:List Pc}{s0:Sp}{t k:Nat}{g:Th}{A:AR}{c:bZ}
theorem ZN {p:Ph}{H1:Hw}{g1:Th}{nx:Option Ph}{a e:Int}(ht:t<H.bQ.length)(hs:Wt H t p=({H1 with bQ:=H.bQ.set t g1},nx,a,e)):Qj H t p = {H1 with bQ:=H.bQ.set t {g1 with ph:=nx}}:=by
 unfold Qj;rw[hs];show Hw.dQ _ t _=_;rw[Zj (g:=g1) (by simp[ht])];simp only[mR]
structure ik (H:Hw) (t:Nat) (p:Ph):Prop where
 ok:sP H t p
 hi:∃held s0,HI (Qj H t p) held s0
 ks:KS H.sp (Qj H t p).sp
theorem ik.mk' {p:Ph}(hg:H.bQ[t]?=some g)(hl:g.bP.length<=41)(h1:sX H t p){H':Hw}{held':List Pc}{s0':Sp}(e:Qj H t p=H')(h2:HI H' held' s0')(h3:KS H.sp H'.sp):ik H t p:=
 ⟨⟨h1,λb a=>by rw[hg]at a;cases a;omega⟩,⟨held',s0',by rw[e];exact h2⟩,by rw[e];exact h3⟩
def Rq (tb:List bZ)(g:Th):Ph->Int->Int->Prop
 | .take k,cl,sz=>cl=k/\∃c,tb[k]?=some c/\sz=c.size
 | .cH k _,cl,sz=>cl=k/\∃c,tb[k]?=some c/\sz=c.size
 | .cI k _,cl,sz=>cl=k/\∃c,tb[k]?=some c/\sz=c.size
 | .grow k _,cl,sz=>cl=k/\∃c,tb[k]?=some c/\sz=c.size
 | .fill,cl,sz=>∃k xs r c,g.bP=(k,xs)::r/\cl=k/\tb[k]?=some c/\sz=c.size
 | .eB m,cl,sz=>cl = -1/\sz=((m*256:Nat):Int)
 | _,_,_=>False
def GO (H:Hw)(t:Nat):Ph->Nat
 | .take _=>5
 | .cH _ _=>4
 | .cI k w=>if X1 (H.dZ t) (k:Int) (w:Int)=[]then 3 else 1
 | .grow _ _=>2
 | _=>0
def rh (H:Hw)(t:Nat)(p:Ph)(cl sz:Int):Prop:=
 (∃p' g',(Wt H t p).2.1=some p'/\(Qj H t p).live=H.live/\(Qj H t p).bQ[t]?=some g'/\Rq H.tb g' p' cl sz/\GO (Qj H t p) t p'<GO H t p) ∨
 ((Wt H t p).2.1=none/\(Wt H t p).2.2.2≠0/\(Wt H t p).2.2.1=0/\(Qj H t p).live=H.live) ∨
 ((Wt H t p).2.1=none/\(Wt H t p).2.2.2=0/\bY H.live (Wt H t p).2.2.1=none/\(Qj H t p).live=dG H.live (Wt H t p).2.2.1 ((Wt H t p).2.2.1,sz,cl,Yf (Qj H t p).bV (Wt H t p).2.2.1))
theorem HI.mem (h:HI H held s0)(hg:H.bQ[t]?=some g):g∈H.bQ:=zG hg
theorem HI.jB (h:HI H held s0)(t:Nat):H.own t<H.bV.length:=uG _ (by have:=h.a1;omega)
theorem HI.dZ (h:HI H held s0)(t:Nat):H.bV[H.own t]?=some (H.dZ t):=by
 have a:=cW (h.jB t);rw[wX a];exact a
theorem HI.pv (h:HI H held s0):H.tb.length<=40:=by
 have a:=h.dZ 0;have:=(h.wi.ga _ _ a).tb;rw[h.wi.tb _ _ a]at this;exact this
theorem HI.cls (h:HI H held s0)(hk:k<H.tb.length):∃c,H.tb[k]?=some c/\c.ok:=⟨H.tb[k],cW hk,h.ok _ (j3 hk)⟩
theorem qF.li {m:Nat}(h:qF m g)(hk:k<m):∃l,g.ls[k]?=some l/\g.li k=l/\fD l/\l.os.length<=128:=by
 have a:=cW (l:=g.ls) (i:=k) (by rw[h.ll];exact hk);have:=h.lo _ (j3 (by rw[h.ll];exact hk));exact⟨_,a,wE a,this.1,this.2⟩
theorem qF.hU {m:Nat}(h:qF m g){l':Li}(h1:fD l')(h2:l'.os.length<=128):(g.ls.set k l').length=m/\∀l∈g.ls.set k l',fD l/\l.os.length<=128:=by
 refine⟨by rw[nk];exact h.ll,λl a=>?_⟩;rcases vT a with a|rfl
 ·exact h.lo l a
 ·exact⟨h1,h2⟩
theorem Ln {ls:List Li}{l':Li}{hs:List Bt}{ph:Option Ph}(hk:k<ls.length):(⟨ls.set k l',hs,ph⟩:Th).li k=l':=by
 unfold Th.li;rw[CG l' k hk,zC rfl]
theorem HI.tN (h:HI H held s0){y:Int}(hu:Um held (k:Int) y)(hc:H.tb[k]?=some c):Lv held (y,(y,(c.size:Int),(k:Int),Yf H.bV y)):=by
 obtain⟨p,d,i,e,rfl⟩:=hu;obtain⟨A,g,_⟩:=h.wi.hf p d;obtain⟨c',b,j,_⟩:=h.wi.cls d e g;rw[h.wi.tb _ _ g]at b;have a:H.tb[k]?=some c':=b;rw[hc]at a;cases a;exact⟨rfl,p,d,i,e,rfl,by rw[j],by rw[h.nU d]⟩
theorem HX {ls:List Li}{l:Li}(hl:ls[k]?=some l)(l':Li)(k' x:Int):k9 (ls.set k l') k' x+(if(k:Int)=k' then l.os.count x else 0)=k9 ls k' x+(if(k:Int)=k' then l'.os.count x else 0):=by
 have:=Oy l' (cX.1 hl).1 k' x;rw[zN,hl]at this;exact this
theorem LU {ls:List Li}{l:Li}(hl:ls[k]?=some l)(x:Int):k9 ls (k:Int) x=l.os.count x:=by
 rw[GQ,zN,hl];rfl
theorem LG (h:HI H held s0)(hg:H.bQ[t]?=some g)(hph:g.ph=some (.take k)){cl sz:Int}(hr:Rq H.tb g (.take k) cl sz):ik H t (.take k)/\rh H t (.take k) cl sz:=by
 have F:=(cX.1 hg).1;have b:=h.th g (h.mem hg);obtain⟨P,w⟩:g.bP=[]/\k<H.tb.length:=by have:=b.ph;unfold gW at this;rw[hph]at this;exact this
 obtain⟨rfl,c,m,rfl⟩:=hr;have B:=h.ok c (zG m);obtain⟨l,hl,j,N,S⟩:=b.li w;have d:=D9 B N;have i:=Hv hg;cases hT:QP c l with
 | mk o l'=>
  rw[hT]at d;cases o with
  | some y=>
   have r:Wt H t (.take k)=({{H with live:=dG H.live y (y,(c.size:Int),(k:Int),Yf H.bV y)}with bQ:=H.bQ.set t {g with ls:=g.ls.set k l'}},none,y,0):=by
    simp only[Wt,i,VB m,j,hT,Va,Zj hg,Th.hU]
   have e:=ZN F r;have u:1<=gg g (k:Int) y:=by
    have:=DS hT y;rw[Ag]at this;unfold gg;rw[LU hl];omega
   have Q:=h.pj (h.mem hg) u;have J:=h.kT (h.mem hg) u;have z:l'.os.length<=128:=by
    have:l'.os.length<=l.os.length:=by
     unfold QP at hT;split at hT
     ·cases hT
     ·cases hT;simp
    omega
   obtain⟨ll,K⟩:=b.hU (k:=k) d z;have L:=h.jR hg (g':={g with ls:=g.ls.set k l',ph:=none}) (live':=dG H.live y (y,(c.size:Int),(k:Int),Yf H.bV y)) (λD x=>by
    rw[xp _ J];have E:=HX hl l' D x;have W:=DS hT x;unfold gg;rw[hph];simp only[jn];by_cases hkk:(k:Int)=D
    ·simp only[hkk,zP]at E ⊢;omega
    ·simp only[hkk,zp]at E ⊢;omega)
    (Go.Vc.gD h.lk) (λR A=>by
     rcases(HV J).1 A with A|rfl
     ·exact .inl A
     ·exact .inr (h.tN Q m))
    (λs a G=>by cases G) ⟨ll,K,b.hb,b.hl,by unfold gW;exact P⟩
   refine⟨ik.mk' hg b.hl ⟨w,λV M p=>?_⟩ e L (KS.refl _),.inr (.inr ?_)⟩
   ·rw[i,j,VB m,hT]at p;cases p;exact(h.i63 Q).1
   ·rw[e,r];exact⟨rfl,rfl,J,rfl⟩
  | none=>
   have r:Wt H t (.take k)=({H with bQ:=H.bQ.set t {g with ls:=g.ls.set k l'}},some (.cH k (GN c l')),0,0):=by
    simp only[Wt,i,VB m,j,hT,Zj hg,Th.hU]
   have e:=ZN F r;obtain⟨o1,o2⟩:=IB hT;obtain⟨ll,K⟩:=b.hU (k:=k) d (by rw[o2];simp);have C:=d.mu;have U:1<=GN c l'/\GN c l'<=32:=by
    unfold bZ.ok at B;unfold GN;simp only at C;omega
   have L:=h.jR hg (g':={g with ls:=g.ls.set k l',ph:=some (.cH k (GN c l'))}) (live':=H.live) (λD x=>by
    have E:=HX hl l' D x;rw[o1,o2]at E;unfold gg;rw[hph];simp only[jn];omega) h.lk (λR A=>.inl A) (λs a G=>by cases G) ⟨ll,K,b.hb,b.hl,by
     unfold gW;exact⟨P,w,by rw[Ln (by rw[b.ll];exact w)];exact o2,U⟩⟩
   refine⟨ik.mk' hg b.hl ⟨w,λV M p=>?_⟩ e L (KS.refl _),.inl ?_⟩
   ·rw[i,j,VB m,hT]at p;cases p
   ·rw[e,r];exact⟨_,_,rfl,rfl,zJ F,⟨rfl,c,m,rfl⟩,by simp[GO]⟩
theorem Ht (h:GA A)(h0:ZP A (k:Int)=0)(hc:A.tb[k]?=some c):∃x xs,Yg A (k:Int)=x::xs/\xs.length+1=c.batch:=by
 have a:Yg A (k:Int)=(match A.cM[k]? with
  | some t=>t.bs.getLast?.getD []
  | none=>[]):=by unfold Yg;rw[zC h0,dC];rfl
 unfold ZP at h0;rw[dC]at h0;split at h0
 ·split at h0
  ·rename_i t ht;split at h0
   ·cases h0
   ·rename_i hb;rw[ht]at a;simp only at a;have i:t.bs.getLast?=some (t.bs.getLast hb):=List.getLast?_eq_some_getLast hb;rw[i]at a;simp only[oB]at a;have:=h.oc k c t hc ht _ (List.getLast_mem hb);rw[←a]at this;have m:=h.cD;cases hx:Yg A (k:Int)with
    | nil=>
     rw[hx]at this;have e:k<A.tb.length:=(cX.1 hc).1;obtain⟨g,j,_,b,_⟩:=h.cl e;have d:g=c:=Option.some.inj (b.1.symm.trans hc);have:=(h.cD k g j b).ok;unfold bZ.ok at this;simp at *;subst d;omega
    | cons x xs=>exact⟨x,xs,rfl,by rw[hx]at this;simpa using this⟩
  ·cases h0
 ·cases h0
theorem NH (h:HI H held s0)(hg:H.bQ[t]?=some g){w:Nat}(hph:g.ph=some (.cH k w)){cl sz:Int}(hr:Rq H.tb g (.cH k w) cl sz):ik H t (.cH k w)/\rh H t (.cH k w) cl sz:=by
 have A:=(cX.1 hg).1;have d:=h.th g (h.mem hg);obtain⟨F,C,p,W⟩:g.bP=[]/\k<H.tb.length/\(g.li k).os=[]/\1<=w/\w<=32:=by have:=d.ph;unfold gW at this;rw[hph]at this;exact this
 obtain⟨rfl,c,i,rfl⟩:=hr;have K:=h.ok c (zG i);have r:=K;unfold bZ.ok at r;have D:=h.dZ t;have ga:=h.wi.ga _ _ D;have u:(H.dZ t).tb[k]?=some c:=by rw[h.wi.tb _ _ D];exact i
 have M:sX H t (.cH k w):=⟨C,λB=>by
  obtain⟨x,z,e,_⟩:=Ht ga B u;rw[e];simp⟩
 by_cases hcase:w=c.batch/\ZP (H.dZ t) (k:Int)=0
 ·obtain⟨rfl,B⟩:=hcase;obtain⟨x,z,L,X⟩:=Ht ga B u;have m:Wt H t (.cH k c.batch)=({H.cC (H.own t) (Zo (H.dZ t) (k:Int))with bQ:=H.bQ.set t {g with bP:=[(k,x::z)]}},some .fill,0,0):=by
   simp only[Wt,VB i,zP,B,Qq,L];rw[Zj (g:=g) (by exact hg),F];rfl
  have e:=ZN (H1:=H.cC (H.own t) (Zo (H.dZ t) (k:Int))) A m;obtain⟨S,N,V,Q⟩:=LF h.wi D (j:=k);have wi:=h.wi.tA D (k:Int);have G:=h.fH hg (g':={g with bP:=[(k,x::z)],ph:=some .fill}) (live':=H.live) wi h.mn rfl (by simp[Wd.put]) Q (λU y=>by
   rw[xh N (λy P=>S y P _) V,L];unfold gg;rw[hph,F];simp only[jn,Kd,KV];omega) h.lk (λR J=>.inl J) (λs a E=>by cases E) ⟨d.ll,d.lo,λb hb=>by
    simp only[zR]at hb;subst hb;exact⟨C,by simp,by simp;omega⟩,by simp,by
    unfold gW;exact⟨k,x,z,rfl,C,p,O⟩⟩
  refine⟨ik.mk' hg d.hl M e G (KS.refl _),.inl ?_⟩;rw[e,m];exact⟨_,_,rfl,rfl,zJ A,⟨k,x::z,[],c,rfl,rfl,i,rfl⟩,by simp[GO]⟩
 ·have m:Wt H t (.cH k w)=({H with bQ:=H.bQ.set t g},some (.cI k w),0,0):=by
   have:H.bQ.set t g=H.bQ:=Z1 hg;rw[this];simp only[Wt,VB i];split
   ·split
    ·exact(hcase ⟨by assumption,by assumption⟩).elim
    ·rfl
   ·rfl
  have e:=ZN A m;have G:=h.jR hg (g':={g with ph:=some (.cI k w)}) (live':=H.live) (λU x=>by
   unfold gg;rw[hph];simp only[jn]) h.lk (λR J=>.inl J) (λs a E=>by cases E) ⟨d.ll,d.lo,d.hb,d.hl,by
    unfold gW;exact⟨F,C,p,W⟩⟩
  refine⟨ik.mk' hg d.hl M e G (KS.refl _),.inl ?_⟩;rw[e,m];refine⟨_,_,rfl,rfl,zJ A,⟨rfl,c,i,rfl⟩,?_⟩;simp only[GO];split<;>omega
theorem Lq (h:GA A)(j w:Nat):(X1 A (j:Int) (w:Int)).length<=w:=by
 unfold X1;split
 ·rename_i h0;have b:A.ck (j:Int)=true:=by
   unfold Qh at h0;split at h0
   ·assumption
   ·cases h0
  obtain⟨i,m,e⟩:=UE.1 b;obtain⟨c,d,t,a,g⟩:=h.cl e;have:i=j:=by omega
  subst this;unfold KP;rw[dC,dC,a.1,a.2];exact(Hh w (h.cD i c d a)).2.2.1
 ·simp
theorem FH (H:Hw)(t:Nat)(B:AR)(h:H.own t<H.bV.length)(sp:Sp)(bQ:List Th):Hw.dZ {H.cC (H.own t) B with sp:=sp,bQ:=bQ} t=B:=by
 refine wX ?_;have:Hw.own {H.cC (H.own t) B with sp:=sp,bQ:=bQ} t=H.own t:=by unfold Hw.own Hw.cC;simp
 rw[this];simp[Hw.cC,h]
theorem Pf (h:HI H held s0)(hg:H.bQ[t]?=some g){w:Nat}(hph:g.ph=some (.cI k w)){cl sz:Int}(hr:Rq H.tb g (.cI k w) cl sz):ik H t (.cI k w)/\rh H t (.cI k w) cl sz:=by
 have C:=(cX.1 hg).1;have d:=h.th g (h.mem hg);obtain⟨E,G,A,Q⟩:g.bP=[]/\k<H.tb.length/\(g.li k).os=[]/\1<=w/\w<=32:=by have:=d.ph;unfold gW at this;rw[hph]at this;exact this
 obtain⟨rfl,c,K,rfl⟩:=hr;have L:=h.dZ t;have ga:=h.wi.ga _ _ L;have wi:=h.wi.from L (k:Int) (w:Int);have j:=Lq ga k w;have B:=(A6 ga (k:Int) (w:Int)).2.2.1;cases hv:X1 (H.dZ t) (k:Int) (w:Int)with
 | nil=>
  have r:Wt H t (.cI k w)=({H.cC (H.own t) (Yk (H.dZ t) (k:Int) (w:Int))with bQ:=H.bQ.set t g},some (.grow k w),0,0):=by
   have:H.bQ.set t g=H.bQ:=Z1 hg;rw[this];simp only[Wt,hv,zP,Hw.cC]
  have e:=ZN (H1:=H.cC (H.own t) (Yk (H.dZ t) (k:Int) (w:Int))) C r;rw[hv]at wi;simp only[sG,lF]at wi;have F:=h.fH hg (g':={g with ph:=some (.grow k w)}) (live':=H.live) wi h.mn rfl (by simp[Wd.put]) (λp i _=>.inl i) (λN y=>by
   unfold gg;rw[hph];simp only[jn]) h.lk (λM J=>.inl J) (λs a i=>by cases i) ⟨d.ll,d.lo,d.hb,d.hl,by
    unfold gW;exact⟨E,G,A,Q⟩⟩
  refine⟨ik.mk' hg d.hl trivial e F (KS.refl _),.inl ?_⟩;rw[e,r];exact⟨_,_,rfl,rfl,zJ C,⟨rfl,c,K,rfl⟩,by simp[GO,hv]⟩
 | cons v vs=>
  have r:Wt H t (.cI k w)=({H.cC (H.own t) (Yk (H.dZ t) (k:Int) (w:Int))with bQ:=H.bQ.set t {g with bP:=[(k,(v::vs).map λ(x:Nat)=>(x:Int))]}},some .fill,0,0):=by
   simp only[Wt,hv,Qq];rw[zB aA,Zj (g:=g) (by exact hg),E];rfl
  have e:=ZN (H1:=H.cC (H.own t) (Yk (H.dZ t) (k:Int) (w:Int))) C r;rw[hv]at wi j B;have u:((v::vs).map λ(x:Nat)=>(x:Int)).Nodup:=List.Pairwise.map (R:=(· ≠ ·)) _ (λa b D e=>D O) B;have app:=C9 (held:=held) (new:=(v::vs).map λy=>(⟨H.own t,(k:Int),y,nv H.tb (k:Int),false⟩:Pc)) (cl:=(k:Int)) (l:=(v::vs).map λ(x:Nat)=>(x:Int)) (λp i=>by
   obtain⟨y,m,rfl⟩:=zF.1 i;exact⟨rfl,rfl,zF.2 ⟨y,m,rfl⟩⟩) λx P=>by
   obtain⟨y,m,rfl⟩:=zF.1 P;exact⟨_,zF.2 ⟨y,m,rfl⟩,rfl⟩
  have new:=xf wi;have F:=h.fH hg (g':={g with bP:=[(k,(v::vs).map λ(x:Nat)=>(x:Int))],ph:=some .fill}) (live':=H.live) wi h.mn rfl (by simp[Wd.put]) (Dg wi) (λN y=>by
   rw[xh u (λy m=>by
    obtain⟨z,S,rfl⟩:=zF.1 m;exact new ⟨H.own t,(k:Int),z,nv H.tb (k:Int),false⟩ (zF.2 ⟨z,S,rfl⟩) _) app]
   unfold gg;rw[hph,E];simp only[jn,Kd,KV];omega) h.lk (λM J=>.inl J) (λs a i=>by cases i) ⟨d.ll,d.lo,λb hb=>by
    simp only[zR]at hb;subst hb;exact⟨G,by simp,by simp at j ⊢;omega⟩,by simp,by
    unfold gW;exact⟨k,(v:Int),vs.map λ(x:Nat)=>(x:Int),rfl,G,A,by simp at j ⊢;omega⟩⟩
  refine⟨ik.mk' hg d.hl trivial e F (KS.refl _),.inl ?_⟩;rw[e,r];refine⟨_,_,rfl,rfl,zJ C,⟨k,_,[],c,rfl,rfl,K,rfl⟩,?_⟩;simp[GO,hv]
theorem EC (h:HI H held s0)(hg:H.bQ[t]?=some g){w:Nat}(hph:g.ph=some (.grow k w)){cl sz:Int}(hr:Rq H.tb g (.grow k w) cl sz):ik H t (.grow k w)/\rh H t (.grow k w) cl sz:=by
 have u:=(cX.1 hg).1;have b:=h.th g (h.mem hg);obtain⟨E,F,A,C⟩:g.bP=[]/\k<H.tb.length/\(g.li k).os=[]/\1<=w/\w<=32:=by have:=b.ph;unfold gW at this;rw[hph]at this;exact this
 obtain⟨rfl,c,J,rfl⟩:=hr;have x:=h.dZ t;have ga:=h.wi.ga _ _ x;obtain⟨e1,e2,D,r⟩:=h.mn.cL (H.dZ t) (k:Int);have wi:=h.wi.grow x (k:Int);by_cases h0:Ks (H.dZ t) H.sp (k:Int)=0
 ·have m:Wt H t (.grow k w)=({{H.cC (H.own t) (cL (H.dZ t) H.sp (k:Int)).1 with sp:=(cL (H.dZ t) H.sp (k:Int)).2}with bQ:=H.bQ.set t g},some (.cI k w),0,0):=by
   have:H.bQ.set t g=H.bQ:=Z1 hg;rw[this];simp only[Wt,h0,zP,Hw.cC]
  have e:=ZN (H1:={H.cC (H.own t) (cL (H.dZ t) H.sp (k:Int)).1 with sp:=(cL (H.dZ t) H.sp (k:Int)).2}) u m;have d:=Ic ga (h.wi.ow _ _ x) (j:=k) (by rw[←e2];exact h0) C.1;rw[show(Wd.mk H.tb s0 H.bV held).sp=s0 from rfl,←e1]at d;rw[show(Wd.mk H.tb s0 H.bV held).sp=s0 from rfl,←e1]at wi;have B:=h.fH hg (g':={g with ph:=some (.cI k w)}) (live':=H.live) wi D r.l (by simp[Wd.put]) (λp i _=>.inl i) (λK y=>by
   unfold gg;rw[hph];simp only[jn]) h.lk (λG z=>.inl z) (λs a i=>by cases i) ⟨b.ll,b.lo,b.hb,b.hl,by
    unfold gW;exact⟨E,F,A,C⟩⟩
  refine⟨ik.mk' hg b.hl trivial e B r,.inl ?_⟩;rw[e,m];refine⟨_,_,rfl,rfl,zJ u,⟨rfl,c,J,rfl⟩,?_⟩;have:=FH H t (cL (H.dZ t) H.sp (k:Int)).1 (h.jB t) (cL (H.dZ t) H.sp (k:Int)).2 (H.bQ.set t {g with ph:=some (.cI k w)});simp only[GO];rw[this,zB d];omega
 ·have m:Wt H t (.grow k w)=({{H.cC (H.own t) (cL (H.dZ t) H.sp (k:Int)).1 with sp:=(cL (H.dZ t) H.sp (k:Int)).2}with bQ:=H.bQ.set t g},none,0,Ks (H.dZ t) H.sp (k:Int)):=by
   have:H.bQ.set t g=H.bQ:=Z1 hg;rw[this];simp only[Wt,h0,zp,Hw.cC]
  have e:=ZN (H1:={H.cC (H.own t) (cL (H.dZ t) H.sp (k:Int)).1 with sp:=(cL (H.dZ t) H.sp (k:Int)).2}) u m;rw[show(Wd.mk H.tb s0 H.bV held).sp=s0 from rfl,←e1]at wi;have B:=h.fH hg (g':={g with ph:=none}) (live':=H.live) wi D r.l (by simp[Wd.put]) (λp i _=>.inl i) (λK y=>by
   unfold gg;rw[hph];simp only[jn]) h.lk (λG z=>.inl z) (λs a i=>by cases i) ⟨b.ll,b.lo,b.hb,b.hl,by
    unfold gW;exact E⟩
  refine⟨ik.mk' hg b.hl trivial e B r,.inr (.inl ?_)⟩;rw[e,m];exact⟨rfl,h0,rfl,rfl⟩
theorem Lc (h:HI H held s0)(hg:H.bQ[t]?=some g)(hph:g.ph=some .fill){cl sz:Int}(hr:Rq H.tb g .fill cl sz):ik H t .fill/\rh H t .fill cl sz:=by
 have L:=(cX.1 hg).1;have i:=h.th g (h.mem hg);obtain⟨k,x,xs,A,J,d,U⟩:∃k x xs,g.bP=[(k,x::xs)]/\k<H.tb.length/\(g.li k).os=[]/\xs.length<=128:=by have:=i.ph;unfold gW at this;rw[hph]at this;exact this
 obtain⟨k',W,r,c,w,rfl,G,rfl⟩:=hr;rw[A]at w;obtain⟨j, -⟩:=List.cons.inj w;obtain rfl:k=k':=congrArg Prod.fst j;obtain⟨l,hl,u,D,S⟩:=i.li J;have p:=Hv hg;rw[u]at d;have m:(dY xs.reverse l).os=xs.reverse:=by unfold dY;rw[d,zB aE];simp
 have F:Wt H t .fill=({{H with live:=dG H.live x (x,(c.size:Int),(k:Int),Yf H.bV x)}with bQ:=H.bQ.set t {ls:=g.ls.set k (dY xs.reverse l),bP:=[],ph:=g.ph}},none,x,0):=by
  simp only[Wt,p,A,VB G,Va,Zj hg,u]
 have e:=ZN L F;have z:1<=gg g (k:Int) x:=by
  unfold gg;rw[A,Kd,zC rfl];have:1<=(x::xs).count x:=Am.2 aA;simp only;omega
 have K:=h.pj (h.mem hg) z;have B:=h.kT (h.mem hg) z;obtain⟨Q,N⟩:=i.hU (k:=k) (wy (xs:=xs.reverse) D) (by rw[m];simp;omega);have R:=h.jR hg (g':={ls:=g.ls.set k (dY xs.reverse l),bP:=[],ph:=none}) (live':=dG H.live x (x,(c.size:Int),(k:Int),Yf H.bV x)) (λk' y=>by
  rw[xp _ B];have E:=HX hl (dY xs.reverse l) k' y;rw[d,m,List.count_reverse,List.count_nil]at E;have X:(x::xs).count y=[x].count y+xs.count y:=uF (l₁:=[x]) (l₂:=xs);unfold gg;rw[hph,A];simp only[jn,Kd,KV];by_cases j:(k:Int)=k'
  ·simp only[j,zP]at E ⊢;omega
  ·simp only[j,zp]at E ⊢;omega)
  (Go.Vc.gD h.lk) (λV C=>by
   rcases(HV B).1 C with C|rfl
   ·exact .inl C
   ·exact .inr (h.tN K G))
  (λs a M=>by cases M) ⟨Q,N,λb P=>by simp at P,by simp,by unfold gW;rfl⟩
 refine⟨ik.mk' hg i.hl ⟨k,x,xs,[],by rw[p];exact A,J,(h.i63 K).1,by rw[p,u,d];simp;omega⟩ e R (KS.refl _),.inr (.inr ?_)⟩;rw[e,F];exact⟨rfl,rfl,B,rfl⟩
theorem IK (h:HI H held s0)(hg:H.bQ[t]?=some g){m:Nat}(hph:g.ph=some (.eB m)){cl sz:Int}(hr:Rq H.tb g (.eB m) cl sz):ik H t (.eB m)/\rh H t (.eB m) cl sz:=by
 have K:=(cX.1 hg).1;have b:=h.th g (h.mem hg);obtain⟨M,U,S⟩:g.bP=[]/\1<=m/\m<=64:=by have:=b.ph;unfold gW at this;rw[hph]at this;exact this
 obtain⟨rfl,rfl⟩:=hr;have N:=h.dZ t;have ga:=h.wi.ga _ _ N;obtain⟨e1,e2,Q,P,B⟩:=h.mn.cA (H.dZ t) (m:Int) 1;have wi:=h.wi.tW N (m:Int) 1;rw[show(Wd.mk H.tb s0 H.bV held).sp=s0 from rfl,←e1,←e2,←Q]at wi;by_cases h0:Qd (H.dZ t) H.sp (m:Int) 1=0
 ·rw[zC h0]at wi;have j:=xf wi;have z:=C9 (held:=held) (new:=[(⟨H.own t, -1,ZO (H.dZ t) H.sp (m:Int) 1*256,(m:Int).toNat*256,false⟩:Pc)]) (cl:=-1) (l:=[((ZO (H.dZ t) H.sp (m:Int) 1*256:Nat):Int)]) (λp d=>by
   simp only[zR]at d;subst d;exact⟨rfl,rfl,by simp⟩) λx D=>by
   simp only[zR]at D;subst D;exact⟨_,zR.2 rfl,rfl⟩
  have i:(⟨H.own t, -1,ZO (H.dZ t) H.sp (m:Int) 1*256,(m:Int).toNat*256,false⟩:Pc)∈held++[(⟨H.own t, -1,ZO (H.dZ t) H.sp (m:Int) 1*256,(m:Int).toNat*256,false⟩:Pc)]:=by simp
  have F:=wi.size_pos i;have w:=wi.jr i;have E:=wi.owner i (x:=ZO (H.dZ t) H.sp (m:Int) 1*256) (zD _) (by simp only at F ⊢;omega);generalize C:ZO (H.dZ t) H.sp (m:Int) 1=V at *;have r:bY H.live ((V*256:Nat):Int)=none:=h.rE λG W=>j _ (zR.2 rfl) G W;have u:Wt H t (.eB m)=({{H.cC (H.own t) (cA (H.dZ t) H.sp (m:Int) 1).1 with sp:=(cA (H.dZ t) H.sp (m:Int) 1).2,live:=dG H.live ((V*256:Nat):Int) (((V*256:Nat):Int),((m*256:Nat):Int), -1,Yf (H.bV.set (H.own t) (cA (H.dZ t) H.sp (m:Int) 1).1) ((V*256:Nat):Int))}with bQ:=H.bQ.set t g},none,((V*256:Nat):Int),0):=by
   have:H.bQ.set t g=H.bQ:=Z1 hg;rw[this];simp only[Wt,h0,zP,Hw.cC,Va,C]
  have e:=ZN (H1:={H.cC (H.own t) (cA (H.dZ t) H.sp (m:Int) 1).1 with sp:=(cA (H.dZ t) H.sp (m:Int) 1).2,live:=dG H.live ((V*256:Nat):Int) (((V*256:Nat):Int),((m*256:Nat):Int), -1,Yf (H.bV.set (H.own t) (cA (H.dZ t) H.sp (m:Int) 1).1) ((V*256:Nat):Int))}) K u;have J:=h.fH hg (g':={g with ph:=none}) (live':=dG H.live ((V*256:Nat):Int) (((V*256:Nat):Int),((m*256:Nat):Int), -1,Yf (H.bV.set (H.own t) (cA (H.dZ t) H.sp (m:Int) 1).1) ((V*256:Nat):Int))) wi P B.l (by simp[Wd.put]) (Dg wi) (λG y=>by
   rw[xp _ r,xh (l:=[((V*256:Nat):Int)]) (cl:=-1) aA (λy L=>by
    simp only[zR]at L;subst L;exact j _ (zR.2 rfl) _) z]
   unfold gg;rw[hph];simp only[jn];omega) (Go.Vc.gD h.lk) (λR A=>by
    rcases(HV r).1 A with A|rfl
    ·exact .inl A
    ·refine .inr ⟨rfl,_,i,rfl,rfl,rfl,?_,?_⟩
     ·simp
     ·exact E) (λs a d=>by cases d) ⟨b.ll,b.lo,b.hb,b.hl,by
    unfold gW;exact M⟩
  refine⟨ik.mk' hg b.hl ?_ e J B,.inr (.inr ?_)⟩
  ·show ZO (H.dZ t) H.sp (m:Int) 1<=1000000;rw[C];simp only at w;omega
  ·rw[e,u];exact⟨rfl,rfl,r,rfl⟩
 ·rw[zB h0]at wi;have C:ZO (H.dZ t) H.sp (m:Int) 1=0:=by
   unfold Qd at h0;unfold ZO;split
   ·rename_i d;rw[d,zC rfl]at h0;split at h0
    ·exact(h0 rfl).elim
    ·rename_i hn;cases D:(cV (H.dZ t) H.sp (m:Int).toNat (1:Int).toNat 41).1 with
     | none=>rfl
     | some y=>rw[D]at hn;simp at hn
   ·rfl
  have u:Wt H t (.eB m)=({{H.cC (H.own t) (cA (H.dZ t) H.sp (m:Int) 1).1 with sp:=(cA (H.dZ t) H.sp (m:Int) 1).2}with bQ:=H.bQ.set t g},none,0,Qd (H.dZ t) H.sp (m:Int) 1):=by
   have:H.bQ.set t g=H.bQ:=Z1 hg;rw[this];simp only[Wt,h0,zp,Hw.cC]
  have e:=ZN (H1:={H.cC (H.own t) (cA (H.dZ t) H.sp (m:Int) 1).1 with sp:=(cA (H.dZ t) H.sp (m:Int) 1).2}) K u;have J:=h.fH hg (g':={g with ph:=none}) (live':=H.live) wi P B.l (by simp[Wd.put]) (λp d _=>.inl d) (λG y=>by
   unfold gg;rw[hph];simp only[jn]) h.lk (λR A=>.inl A) (λs a d=>by cases d) ⟨b.ll,b.lo,b.hb,b.hl,by
    unfold gW;exact M⟩
  refine⟨ik.mk' hg b.hl ?_ e J B,.inr (.inl ?_)⟩
  ·show ZO (H.dZ t) H.sp (m:Int) 1<=1000000;rw[C];omega
  ·rw[e,u];exact⟨rfl,h0,rfl,rfl⟩
theorem L5 {W:Wd}(h:WI W)(hk:W.bV[k]?=some A){j:Nat}{l:List Int}(hl:∀x∈l,∃p∈W.held,kK k (j:Int) x p=true)(hn:l.Nodup)(hj:j<W.tb.length):Qx A (j:Int) l=0/\WI (W.put k (Zl A (j:Int) l) W.sp (W.held.filter λp=>!dW k (j:Int) l p)):=by
 have ga:=h.ga k A hk;have g:iW W.held k (j:Int) l=true:=Ke.2 ⟨hl,hn⟩;obtain⟨c,w,_,d,_⟩:=ga.cl (k:=j) (by rw[h.tb k A hk];exact hj);have e:Qx A (j:Int) l=0:=by
  rw[He ga d];refine Dt ⟨λx r=>?_,hn⟩;obtain⟨p,m,b⟩:=hl x r;obtain⟨i,s,u,y⟩:=Kc.1 b;obtain⟨_,_,_,a,_⟩:=h.cls m s (by rw[i];exact hk);rw[u]at a;exact(KH d).1 a
 refine⟨e,?_⟩;have:=h.E9 hk g;rw[zC e,h.vB g]at this;exact this
theorem BK {xs:List Int}{tb:List bZ}{ars0:List AR}(hH:H.tb=tb)(h:WI ⟨tb,s0,H.bV,held⟩)(hk:k<tb.length)(hxs:∀x∈xs,Um held (k:Int) x)(hn:xs.Nodup)(ha:∀p∈held,Yf ars0 (p.addr:Int)=(p.k:Int)):∀j,j<=H.bV.length →
 ∃ars',Kz H k (Zv ars0 xs) (List.range j) = {H with bV:=ars'}/\ars'.length=H.bV.length/\WI ⟨tb,s0,ars',held.filter λp=>!(decide (p.k<j)&&(p.cls==(k:Int)&&xs.contains (p.addr:Int)))⟩
 | 0,_=>by
  refine⟨H.bV,rfl,rfl,?_⟩;have:(held.filter λp=>!(decide (p.k<0)&&(p.cls==(k:Int)&&xs.contains (p.addr:Int))))=held:=oV.2 λp _=>by simp
  rw[this];exact h
 | j+1,hj=>by
  obtain⟨ars',e,r,y⟩:=BK hH h hk hxs hn ha j O;rw[KA,e];have u:ars'[j]?=some (ars'[j]' O):=cW _;simp only[u];have b:∀{p:Pc},p∈held->p.k=j->((p.addr:Int)∈Zv ars0 xs j↔(p.addr:Int)∈xs):=λ{p} d a=>by
   unfold Zv;rw[zI,ha p d,a];simp
  have g:((held.filter λp=>!(decide (p.k<j)&&(p.cls==(k:Int)&&xs.contains (p.addr:Int)))).filter λp=>!dW j (k:Int) (Zv ars0 xs j) p)=held.filter λp=>!(decide (p.k<j+1)&&(p.cls==(k:Int)&&xs.contains (p.addr:Int))):=by
   rw[Ah];apply wN;intro p d;have e1:dW j (k:Int) (Zv ars0 xs j) p=(p.k==j&&(p.cls==(k:Int)&&xs.contains (p.addr:Int))):=by
    unfold dW;by_cases a:p.k=j
    ·have:=b d a;have e2:(Zv ars0 xs j).contains (p.addr:Int)=xs.contains (p.addr:Int):=by
      rw[mq,wh,wh];exact this
     rw[e2]
    ·have:(p.k==j)=false:=by simpa using a
     rw[this];rfl
   rw[e1];have z:decide (p.k<j+1)=(decide (p.k<j)||p.k==j):=by
    rw[mq];simp;omega
   rw[z];cases p.k==j<;>cases decide (p.k<j)<;>cases(p.cls==(k:Int)&&xs.contains (p.addr:Int))<;>rfl
  by_cases d:Zv ars0 xs j=[]
  ·rw[zC d];refine⟨ars',rfl,r,?_⟩;rw[←g,d];have:∀p:Pc,(!dW j (k:Int) [] p)=true:=λp=>by simp[dW]
   rw[oV.2 λp _=>this p];exact y
  ·rw[zB d];refine⟨ars'.set j (Zl (ars'[j]' O) (k:Int) (Zv ars0 xs j)),by simp[Hw.cC],by simp[r],?_⟩;rw[←g];refine(L5 y u (j:=k) (l:=Zv ars0 xs j) (λx s=>?_) (hn.sublist qU) hk).2;unfold Zv at s;obtain⟨m,i⟩:=zI.1 s;obtain⟨p,d,B,A,w⟩:=hxs x m;have a:p.k=j:=by
    have:=ha p d;rw[w]at this;rw[this]at i;have:(p.k:Int)=(j:Int):=by simpa using i
    omega
   exact⟨p,zI.2 ⟨d,by simp[a]⟩,Kc.2 ⟨a,A,w,B⟩⟩
theorem Pe {tb:List bZ}(hH:H.tb=tb)(h:WI ⟨tb,s0,H.bV,held⟩){own:Nat}(hown:own<H.bV.length)(hk:k<tb.length){xs:List Int}(hxs:∀x∈xs,Um held (k:Int) x)(hn:xs.Nodup) :
 ∃ars' held',UV H own k xs = {H with bV:=ars'}/\ars'.length=H.bV.length/\WI ⟨tb,s0,ars',held'⟩/\(∀c x,Um held' c x↔Um held c x/\¬(c=(k:Int)/\x∈xs))/\∀p∈held',p.eI=false->p∈held:=by
 have r:H.bV[own]?=some H.bV[own]:=cW hown;have y:∀p∈held,Yf H.bV (p.addr:Int)=(p.k:Int):=λp a=>h.owner a (zD _) (by have:=(h.size_pos a).1;omega);have all:∃ars' held',Kz H k (Zv H.bV xs) (List.range H.bV.length) = {H with bV:=ars'}/\ars'.length=H.bV.length/\WI ⟨tb,s0,ars',held'⟩/\(∀c x,Um held' c x↔Um held c x/\¬(c=(k:Int)/\x∈xs))/\∀p∈held',p.eI=false->p∈held:=by
  obtain⟨ars',e,m,j⟩:=BK hH h hk hxs hn y H.bV.length (zD _);refine⟨ars',_,e,m,j,λc x=>?_,λp a _=>(zI.1 a).1⟩;constructor
  ·rintro⟨p,a,i,g,d⟩;obtain⟨a,hf⟩:=zI.1 a;refine⟨⟨p,a,i,g,d⟩,?_⟩;rintro⟨rfl,b⟩;obtain⟨B,z,_⟩:=h.hf p a;have u:p.k<H.bV.length:=(cX.1 z).1;rw[g,d]at hf;simp[u,b]at hf
  ·rintro⟨⟨p,a,i,g,d⟩,hno⟩;refine⟨p,zI.2 ⟨a,?_⟩,i,g,d⟩;rw[g,d];by_cases hc:c=(k:Int)
   ·have:x∉xs:=λb=>hno ⟨hc,b⟩;simp[this]
   ·simp[hc]
 unfold UV;rw[r];simp only;by_cases hcond:(Zv H.bV xs own).length=xs.length/\KE H.bV[own] (k:Int) xs=true
 ·rw[zC hcond];have s:∀x∈xs,Yf H.bV x=(own:Int):=by
   have i:Zv H.bV xs own=xs:=by
    unfold Zv at hcond ⊢;exact List.filter_sublist.eq_of_length hcond.1
   intro x b;rw[←i]at b;unfold Zv at b;simpa using(zI.1 b).2
  have w:iW held own (k:Int) xs=true:=Ke.2 ⟨λx b=>by
   obtain⟨p,a,i,g,d⟩:=hxs x b;have C:=y p a;rw[d,s x b]at C;exact⟨p,a,Kc.2 ⟨O,g,d,i⟩⟩,hn⟩
  have j:=h.Me r w;rw[zC hcond.2]at j;exact⟨_,_,rfl,by simp[Hw.cC],j,F7 h w,Pu⟩
 ·rw[zB hcond];have e:(if(Zv H.bV xs own).length=xs.length then H.cC own (QL H.bV[own] (k:Int) xs)else H)=H:=by
   split
   ·rename_i m;have A:KE H.bV[own] (k:Int) xs=false:=by
     apply mK.2;intro b;exact hcond ⟨m,b⟩
    have:QL H.bV[own] (k:Int) xs=H.bV[own]:=by unfold QL;rw[A];rfl
    rw[this];exact DE r
   ·rfl
  rw[e];exact all
def kH:Ph->Prop
 | .find _=>True
 | .put _ _=>True
 | .back=>True
 | .dA _ _=>True
 | .drain=>True
 | _=>False
def oA (g:Th):Ph->Nat
 | .find _=>101
 | .put _ _=>100
 | .drain=>100
 | .back=>g.bP.length
 | _=>0
def mC (H:Hw)(t:Nat)(g:Th)(p:Ph):Prop:=(Wt H t p).2.2.1=0 ∧
 ((∃p' g',(Wt H t p).2.1=some p'/\kH p'/\(∀x,p'≠.find x)/\(Qj H t p).bQ[t]?=some g'/\oA g' p'<oA g p)\/(Wt H t p).2.1=none) ∧
 ((∀x,p≠.find x)->(Wt H t p).2.2.2=0/\(Qj H t p).live=H.live) ∧
 (∀x,p=.find x->(bY H.live x=none->(Wt H t p).2.1=none/\(Wt H t p).2.2.2≠0/\(Qj H t p).live=H.live)/\(∀b,bY H.live x=some b->(Wt H t p).2.2.2=0/\(Qj H t p).live=di H.live x))
theorem yQ (hg:H.bQ[t]?=some g):jI H t=if g.bP=[]then none else some .back:=by unfold jI;rw[hg]
theorem I9 (h:HI H held s0)(hg:H.bQ[t]?=some g){x:Int}(hph:g.ph=some (.find x)):ik H t (.find x)/\mC H t g (.find x):=by
 have E:=(cX.1 hg).1;have d:=h.th g (h.mem hg);obtain⟨P,C⟩:g.bP=[]/\iu x:=by have:=d.ph;unfold gW at this;rw[hph]at this;exact this
 have V:∀A∈H.bV,iw A:=λA U=>by
  obtain⟨j,hj⟩:=zO U;exact(h.wi.ga j A hj).ns
 cases hm:bY H.live x with
 | none=>
  have w:Wt H t (.find x)=({H with bQ:=H.bQ.set t g},none,0,kL H x):=by
   have:H.bQ.set t g=H.bQ:=Z1 hg;rw[this];simp only[Wt,Uq,hm]
  have e:=ZN E w;have G:=h.jR hg (g':={g with ph:=none}) (live':=H.live) (λJ x=>by
   unfold gg;rw[hph];simp only[jn]) h.lk (λW M=>.inl M) (λs a N=>by cases N) ⟨d.ll,d.lo,d.hb,d.hl,by
    unfold gW;exact P⟩
  refine⟨ik.mk' hg d.hl ⟨C,λ_=>V,λb hb=>by rw[hm]at hb;cases hb⟩ e G (KS.refl _),?_⟩;unfold mC;rw[e,w];refine⟨rfl,.inr rfl,λi=>(i x rfl).elim,λy m=>?_⟩;cases m;refine⟨λ_=>⟨rfl,?_,rfl⟩,(λb hb=>by rw[hm]at hb;cases hb)⟩;show kL H x≠0;unfold kL
  repeat' split
  all_goals simp
 | some b=>
  have R:=V1 hm;obtain⟨_,p,N,h1,Q,Z,h4,X⟩:=h.lv _ R;simp only at Q Z h4 X;have S:0<=x:=by omega
  obtain⟨A,U,hd⟩:=h.wi.hf p N;have Y:sX H t (.find x):=⟨C,(λi=>by rw[hm]at i;cases i),λ_ _=>S⟩;rcases hd with⟨c1,_,r,hr,c2,c3⟩|⟨j,c,c1,c2,c3,_⟩
  ·have L:b.2.2.1 = -1:=by rw[←Q,c1]
   have w:Wt H t (.find x)=({{H with live:=di H.live x}with bQ:=H.bQ.set t g},some (.dA (x/256) b.2.2.2),0,0):=by
    have:H.bQ.set t g=H.bQ:=Z1 hg;rw[this];simp only[Wt,Uq,hm];rw[zC O]
   have e:=ZN (H1:={H with live:=di H.live x}) E w;have u:x/256*256=x:=by omega
   have G:=h.jR hg (g':={g with ph:=some (.dA (x/256) b.2.2.2)}) (live':=di H.live x) (λJ y=>by
    have z:=xB h.lk hm J y;rw[L]at z;unfold gg;rw[hph];simp only[jn,u];by_cases m:x=y
    ·subst m;rw[Ag]at z;by_cases hk : -1=J
     ·rw[zC hk]at z;rw[zC ⟨hk.symm,rfl⟩];omega
     ·rw[zB hk]at z;rw[zB (λC=>hk C.1.symm)];omega
    ·have:[x].count y=0:=wF.2 aE;rw[this]at z;rw[zB (λC=>m C.2.symm)];split at z<;>omega)
    (Go.Vc.iT h.lk) (λW M=>.inl (HN.1 M).1) (λs a B=>by
     cases B;exact⟨p,N,h1,c1,by rw[u];exact Z,X⟩) ⟨d.ll,d.lo,d.hb,d.hl,by
      unfold gW;exact P⟩
   refine⟨ik.mk' hg d.hl Y e G (KS.refl _),?_⟩;unfold mC;rw[e,w];refine⟨rfl,.inl ⟨_,_,rfl,trivial,(λy m=>by cases m),zJ E,by simp[oA]⟩,λi=>(i x rfl).elim,λy m=>?_⟩;cases m;exact⟨(λi=>by rw[hm]at i;cases i),λ_ _=>⟨rfl,rfl⟩⟩
  ·have D:b.2.2.1=(j:Int):=by rw[←Q,c1]
   have F:j<H.tb.length:=by
    rw[h.wi.tb _ _ U]at c2;exact(cX.1 c2).1
   have w:Wt H t (.find x)=({{H with live:=di H.live x}with bQ:=H.bQ.set t {g with bP:=[(j,[x])]}},some (.put j x),0,0):=by
    simp only[Wt,Uq,hm];rw[zB O,D,dC];unfold Qq;rw[Zj (g:=g) (by exact hg),P];rfl
   have e:=ZN (H1:={H with live:=di H.live x}) E w;have G:=h.jR hg (g':={g with bP:=[(j,[x])],ph:=some (.put j x)}) (live':=di H.live x) (λJ y=>by
    have z:=xB h.lk hm J y;rw[D]at z;unfold gg;rw[hph,P];simp only[jn,Kd,KV];omega)
    (Go.Vc.iT h.lk) (λW M=>.inl (HN.1 M).1) (λs a B=>by cases B) ⟨d.ll,d.lo,λb' K=>by
     simp only[zR]at K;subst K;exact⟨F,by simp,by simp⟩,by simp,by
     unfold gW;exact⟨rfl,F⟩⟩
   refine⟨ik.mk' hg d.hl Y e G (KS.refl _),?_⟩;unfold mC;rw[e,w];refine⟨rfl,.inl ⟨_,_,rfl,trivial,(λy m=>by cases m),zJ E,by simp[oA]⟩,λi=>(i x rfl).elim,λy m=>?_⟩;cases m;exact⟨(λi=>by rw[hm]at i;cases i),λ_ _=>⟨rfl,rfl⟩⟩
theorem Es {f:bZ->Li->List Int×Li}{tb:List bZ}{ls:List Li}{b:Bt}(h:b∈QO f tb ls):b.1<tb.length/\b.2≠[]/\∃c∈tb,∃l∈ls,b.2=(f c l).1:=by
 unfold QO at h;obtain⟨k,d,a⟩:=uc.1 h;split at a
 ·rename_i c l hc hl;split at a
  ·cases a
  ·cases a;exact⟨zh.1 d,by assumption,c,zG hc,l,zG hl,rfl⟩
 ·cases a
theorem DZ {f:bZ->Li->List Int×Li}{tb:List bZ}{ls:List Li}{l':Li}(h:l'∈QM f tb ls):∃c∈tb,∃l∈ls,l'=(f c l).2:=by
 unfold QM at h;obtain⟨i,a⟩:=zO h;rw[xI]at a;split at a
 ·rename_i c l hc hl;cases a;exact⟨c,zG hc,l,zG hl,rfl⟩
 ·cases a
theorem En {f:bZ->Li->List Int×Li}{tb:List bZ}{ls:List Li}(h:ls.length=tb.length):(QM f tb ls).length=tb.length:=by
 unfold QM;rw[List.length_zipWith];omega
theorem Cg (c:bZ)(l:Li):(Kl c l).2.os.length<=l.os.length/\(Kl c l).1.length<=l.os.length:=by
 simp only[Kl,fU,jM,zZ];omega
theorem AI (c:bZ)(l:Li):(Zy c l).2.os.length<=l.os.length/\(Zy c l).1.length<=l.os.length:=by
 simp only[Zy,fU,jM,zZ];omega
theorem FX (h:HI H held s0)(hg:H.bQ[t]?=some g)(hph:g.ph=some .drain):ik H t .drain/\mC H t g .drain:=by
 have m:=(cX.1 hg).1;have d:=h.th g (h.mem hg);have B:g.bP=[]:=by have:=d.ph;unfold gW at this;rw[hph]at this;exact this
 have K:=h.pv;have G:=GJ Zy H.tb g.ls;have r:Wt H t .drain=({H with bQ:=H.bQ.set t {g with ls:=QM Zy H.tb g.ls,bP:=QO Zy H.tb g.ls}},(if QO Zy H.tb g.ls=[]then none else some .back),0,0):=by
  simp only[Wt,Zj hg];rw[yQ (g:={g with ls:=QM Zy H.tb g.ls,bP:=QO Zy H.tb g.ls}) (by simp[m])]
 have e:=ZN m r;have E:=h.jR hg (g':={ls:=QM Zy H.tb g.ls,bP:=QO Zy H.tb g.ls,ph:=if QO Zy H.tb g.ls=[]then none else some .back}) (live':=H.live) (λu x=>by
  have M:=B4 (f:=Zy) MY d.ll u x;unfold gg;rw[hph,B];have:jn (if QO Zy H.tb g.ls=[]then none else some Ph.back) u x=0:=by split<;>rfl
  simp only[this,KV];simp only[jn];omega) h.lk (λL J=>.inl J) (λs a p=>by
   simp only at p;split at p<;>cases p) ⟨En d.ll,λl hl=>by
   obtain⟨c,_,j,i,rfl⟩:=DZ hl;have:=d.lo j i;have:=AI c j;exact⟨M8 (d.lo j i).1,O⟩,λb A=>by
   obtain⟨C,D,c,_,j,i,w⟩:=Es A;have:=d.lo j i;have:=AI c j;exact⟨C,D,by rw[w];omega⟩,by simp only;omega,by
   unfold gW;by_cases ho:QO Zy H.tb g.ls=[]
   ·rw[zC ho];exact ho
   ·rw[zB ho];exact ho⟩
 refine⟨ik.mk' hg d.hl trivial e E (KS.refl _),?_⟩;unfold mC;rw[e,r];refine⟨rfl,?_,λ_=>⟨rfl,rfl⟩,λx F=>by cases F⟩;by_cases ho:QO Zy H.tb g.ls=[]
 ·exact .inr (by simp only;rw[zC ho])
 ·exact .inl ⟨.back,_,by simp only;rw[zB ho],trivial,(λy z=>by cases z),zJ m,by simp only[oA];omega⟩
theorem Fu (h:HI H held s0)(hg:H.bQ[t]?=some g){s a:Int}(hph:g.ph=some (.dA s a)):ik H t (.dA s a)/\mC H t g (.dA s a):=by
 have L:=(cX.1 hg).1;have b:=h.th g (h.mem hg);have M:g.bP=[]:=by have:=b.ph;unfold gW at this;rw[hph]at this;exact this
 obtain⟨p,C,h1,N,Z,h4⟩:=h.gv g (h.mem hg) s a hph;obtain⟨A,z,_⟩:=h.wi.hf p C;have m:H.bV[p.k]?=some A:=z;have U:=(cX.1 m).1;obtain⟨_,r,J,W,Y⟩:=h.wi.run C N z;have ga:=h.wi.ga _ _ z;have d:s=(r.1:Int):=by omega
 have V:Ku A s=0:=by
  unfold Ku;rw[zC];unfold og;rw[Ae];exact⟨r,J,by simp[d]⟩
 have D:iW held p.k (-1) [s*256]=true:=by rw[d];exact h.wi.ma z J
 have wi:=h.wi.uH z s;rw[zC V,h.wi.vB D]at wi;have w:a.toNat=p.k:=by omega
 have G:Wt H t (.dA s a)=({H.cC p.k (Qi A s)with bQ:=H.bQ.set t g},none,0,0):=by
  have:H.bQ.set t g=H.bQ:=Z1 hg;rw[this];simp only[Wt,w,m,Hw.cC]
 have e:=ZN (H1:=H.cC p.k (Qi A s)) L G;have P:=h.fH hg (g':={g with ph:=none}) (live':=H.live) wi h.mn rfl (by simp[Wd.put]) (λq F _=>.inl (zI.1 F).1) (λu x=>by
  have i:=Bp (held':=held.filter λE=>!dW p.k (-1) [s*256] E) (l:=[s*256]) (cl:=-1) aA (Nu D) (JK h.wi D) u x;have i:ku held u x=ku (held.filter λE=>!dW p.k (-1) [s*256] E) u x+(if -1=u then[s*256].count x else 0):=i
  unfold gg;rw[hph];simp only[jn];by_cases hy:s*256=x
  ·subst hy;rw[Ag]at i;by_cases hk : -1=u
   ·rw[zC hk]at i;rw[zC ⟨hk.symm,rfl⟩];omega
   ·rw[zB hk]at i;rw[zB (λy=>hk y.1.symm)];omega
  ·have:[s*256].count x=0:=wF.2 aE;rw[this]at i;rw[zB (λy=>hy y.2.symm)];split at i<;>omega) h.lk (λX S=>.inl S) (λs a C=>by cases C) ⟨b.ll,b.lo,b.hb,b.hl,by
   unfold gW;exact M⟩
 refine⟨ik.mk' hg b.hl ⟨O,O,λB R q F=>?_⟩ e P (KS.refl _),?_⟩
 ·obtain⟨j,Q⟩:=zO R;have K:=h.wi.ga j B Q;have:=K.fit F;have:=K.pg.n2;omega
 ·unfold mC;rw[e,G];exact⟨rfl,.inr rfl,λ_=>⟨rfl,rfl⟩,λx y=>by cases y⟩
theorem Ls (h:HI H held s0)(hg:H.bQ[t]?=some g)(hph:g.ph=some .back):ik H t .back/\mC H t g .back:=by
 have D:=(cX.1 hg).1;have d:=h.th g (h.mem hg);have P:g.bP≠[]:=by have:=d.ph;unfold gW at this;rw[hph]at this;exact this
 have A:=Hv hg;cases hhd:g.bP with
 | nil=>exact(P hhd).elim
 | cons b r=>
  obtain⟨k,C⟩:=b;obtain⟨L,z,E⟩:=d.hb (k,C) (by rw[hhd];simp);simp only at L z E;have m:∀x,C.count x<=gg g (k:Int) x:=λx=>by
   unfold gg;rw[hhd,Kd,zC rfl];simp only;omega
  have i:∀x∈C,Um held (k:Int) x:=λx u=>h.pj (h.mem hg) (ky (Am.2 u) (m x));have B:C.Nodup:=xb.2 λx=>by
   have U:=m x;have W:=h.nj (h.mem hg) (k:Int) x;have X:=Ec held (k:Int) x;omega
  obtain⟨j,F,R,G,wi,um,sub⟩:=Pe (H:={H with bQ:=H.bQ.set t {g with bP:=r}}) (tb:=H.tb) rfl h.wi (h.jB t) L i B;have J:Wt H t .back=({{H with bV:=j}with bQ:=H.bQ.set t {g with bP:=r}},(if r=[]then none else some .back),0,0):=by
   simp only[Wt,A,hhd,Zj hg,R];rw[yQ (g:={g with bP:=r}) (by simp[D])]
  have e:=ZN (H1:={H with bV:=j}) D J;have Q:=h.fH hg (g':={g with bP:=r,ph:=if r=[]then none else some .back}) (live':=H.live) wi h.mn rfl G (λp w N=>.inl (sub p w N)) (λK x=>by
   have U:=Bp B i um K x;unfold gg;rw[hph,hhd,Kd];have:jn (if r=[]then none else some Ph.back) K x=0:=by split<;>rfl
   simp only[this];simp only[jn];omega) h.lk (λV S=>.inl S) (λs a w=>by
    simp only at w;split at w<;>cases w) ⟨d.ll,d.lo,λb hb=>d.hb b (by rw[hhd];exact ou _ hb),by have:=d.hl;rw[hhd]at this;simp at this ⊢;omega,by
    unfold gW;by_cases ho:r=[]
    ·rw[zC ho];exact ho
    ·rw[zB ho];exact ho⟩
  refine⟨ik.mk' hg d.hl ⟨k,C,r,by rw[A];exact hhd,λx u=>⟨(h.i63 (i x u)).1,(h.i63 (i x u)).2.2⟩,O⟩ e Q (KS.refl _),?_⟩;unfold mC;rw[e,J];refine⟨rfl,?_,λ_=>⟨rfl,rfl⟩,λx u=>by cases u⟩;by_cases ho:r=[]
  ·exact .inr (by simp only;rw[zC ho])
  ·exact .inl ⟨.back,_,by simp only;rw[zB ho],trivial,(λy M=>by cases M),zJ D,by simp only[oA];rw[hhd];simp⟩
theorem Jj (h:HI H held s0)(hg:H.bQ[t]?=some g){x:Int}(hph:g.ph=some (.put k x)):ik H t (.put k x)/\mC H t g (.put k x):=by
 have B:=(cX.1 hg).1;have r:=h.th g (h.mem hg);obtain⟨J,K⟩:g.bP=[(k,[x])]/\k<H.tb.length:=by have:=r.ph;unfold gW at this;rw[hph]at this;exact this
 obtain⟨c,hc,F⟩:=h.cls K;obtain⟨l,hl,X,E,hlm⟩:=r.li K;have D:=Hv hg;have h40:=h.pv;have W:=Pb (x:=x) F E;have aa:=Le c x l O;have V:(dH c x l).1.length<=129/\(dH c x l).2.os.length<=128:=by
  have hlim:=E.lim;have z:(dY [x] l).os=l.os++[x]:=by unfold dY;rw[zB aE]
  have Y:(lC c (dY [x] l)).os=l.os++[x]:=by rw[←z];unfold lC;split<;>rfl
  unfold bZ.ok at F;unfold dH;rw[zB O];split
  ·rw[z];simp;omega
  ·simp only[fU,Y,zZ,jM,zQ,yD];omega
 obtain⟨S,Q⟩:=r.hU (k:=k) W V.2;have N:∃hs:List Bt,(if(dH c x l).1=[]then[]else[(k,(dH c x l).1)])=hs:=⟨_,rfl⟩
 obtain⟨i,j⟩:=N;have hs2l:i.length<=1:=by rw[←j];split<;>simp
 have w:∀b∈i,b.1<H.tb.length/\b.2≠[]/\b.2.length<=256:=λb m=>by
  rw[←j]at m;split at m
  ·simp at m
  ·simp only[zR]at m;subst m;exact⟨K,by assumption,by simp only;omega⟩
 have C:∀d y,kZ i d y=if(k:Int)=d then(dH c x l).1.count y else 0:=λd y=>by
  rw[←j];split
  ·rename_i hn;rw[hn,KV];simp
  ·simp only[Kd,KV,zz]
 let g3:Th:={g with ls:=g.ls.set k (dH c x l).2,bP:=i}
 let g4:Th:=if H.cf.cZ<QF H.tb g3.ls then{g3 with ls:=QM Kl H.tb g3.ls,bP:=g3.bP++QO Kl H.tb g3.ls}else g3
 have U:ic H t k x = {H with bQ:=H.bQ.set t g4}:=by
  have e2:(if(dH c x l).1=[]then H.dQ t λh=>h.hU k (dH c x l).2 else Qq (H.dQ t λh=>h.hU k (dH c x l).2) t k (dH c x l).1) = {H with bQ:=H.bQ.set t {g with ls:=g.ls.set k (dH c x l).2,bP:=(k,[x])::i}}:=by
   rw[←j];split
   ·rw[Zj hg,←J];rfl
   ·rw[Zj hg];unfold Qq;rw[Zj (g:=g.hU k (dH c x l).2) (by simp[B])];simp only[mR,Th.hU,J];rfl
  have e3:({H with bQ:=H.bQ.set t {g with ls:=g.ls.set k (dH c x l).2,bP:=(k,[x])::i}}:Hw).dQ t (λh=>{h with bP:=h.bP.drop 1}) = {H with bQ:=H.bQ.set t g3}:=by
   rw[Zj (g:={g with ls:=g.ls.set k (dH c x l).2,bP:=(k,[x])::i}) (by simp[B])];simp only[mR,vC,List.drop_zero];rfl
  have u:({H with bQ:=H.bQ.set t g3}:Hw).bQ[t]?=some g3:=by simp[B]
  unfold ic;simp only[VB hc,D,X,e2,e3,Hv u,Zj u,mR];show(if H.cf.cZ<QF H.tb g3.ls then _ else _)=_
  simp only[g4];split<;>rfl
 have hg4:g4.ph=g.ph:=by simp only[g4];split<;>rfl
 have P:∀d y,k9 g4.ls d y+kZ g4.bP d y=k9 g.ls d y+kZ g.bP d y:=λd y=>by
  have Z:=HX hl (dH c x l).2 d y;have h2:=aa y;have h3:k9 g3.ls d y+kZ g3.bP d y=k9 g.ls d y+kZ g.bP d y:=by
   simp only[g3];rw[C,J,Kd,KV];by_cases hkk:(k:Int)=d
   ·simp only[hkk,zP]at Z ⊢;omega
   ·simp only[hkk,zp]at Z ⊢;omega
  simp only[g4];split
  ·have h4:=B4 (f:=Kl) JI (tb:=H.tb) (ls:=g3.ls) S d y;simp only[DN];omega
  ·exact h3
 have p:g4.ls.length=H.tb.length/\(∀l∈g4.ls,fD l/\l.os.length<=128)/\(∀b∈g4.bP,b.1<H.tb.length/\b.2≠[]/\b.2.length<=256)/\g4.bP.length<=41:=by
  have hsl:=GJ Kl H.tb g3.ls;simp only[g4];split
  ·refine⟨En S,λl hl=>?_,λb m=>?_,by simp only[zQ,g3]at *;omega⟩
   ·obtain⟨L,R,G,A,rfl⟩:=DZ hl;have h5:=Q G A;have:=Cg L G;exact⟨A3 (h.ok L R) h5.1,O⟩
   ·rcases zL.1 m with m|m
    ·exact w b m
    ·obtain⟨b1,b2,L,_,G,A,b3⟩:=Es m;have h5:=Q G A;have:=Cg L G;exact⟨b1,b2,by rw[b3];omega⟩
  ·exact⟨S,Q,w,by simp only[g3];omega⟩
 have hs:Wt H t (.put k x)=({H with bQ:=H.bQ.set t g4},(if g4.bP=[]then none else some .back),0,0):=by
  show(ic H t k x,jI (ic H t k x) t,0,0)=_;rw[U,yQ (g:=g4) (by simp[B])]
 have e:=ZN B hs;have hi:=h.jR hg (g':={g4 with ph:=if g4.bP=[]then none else some .back}) (live':=H.live) (λd y=>by
  have Z:=P d y;unfold gg;rw[hph];have:jn (if g4.bP=[]then none else some Ph.back) d y=0:=by split<;>rfl
  simp only[this];simp only[jn];omega) h.lk (λe' he=>.inl he) (λs a M=>by
   simp only at M;split at M<;>cases M) ⟨p.1,p.2.1,p.2.2.1,p.2.2.2,by
   unfold gW;by_cases ho:g4.bP=[]
   ·simp only[ho,zP]
   ·simp only[ho,zp];exact ho⟩
 refine⟨ik.mk' hg r.hl ⟨K,by rw[D,J];simp⟩ e hi (KS.refl _),?_⟩;unfold mC;rw[e,hs];refine⟨rfl,?_,λ_=>⟨rfl,rfl⟩,λx hx=>by cases hx⟩;by_cases ho:g4.bP=[]
 ·exact .inr (by simp only;rw[zC ho])
 ·exact .inl ⟨.back,_,by simp only;rw[zB ho],trivial,(λy hy=>by cases hy),zJ B,by simp only[oA];have:=p.2.2.2;omega⟩
end Go.Ar
namespace Go.Ar
open Go Go.Vc Go.Proofs
open Go.Bu (fB VM Gy)
variable {U u w w':Hp}{F B P Q:Rg}{L:dP}{H H':Hw}{t n:Nat}{g:Th}
def vz (size:Int):Int:=(size+255)/256*256
def qv (tb:List bZ)(size align:Int):Int×Int:=
 if size<=16384/\Uc size align=true then(match gA tb size align with
  | some k=>((tb.getD k ⟨8,1,1⟩).size:Int)
  | none=>vz size,0)else(0,1)
theorem Oo {a:Int}(h1:1<=a)(h2:a<=256):(bits .and .i64 a (a-1) != 0) = !fB a:=by
 obtain⟨a,rfl⟩:=zY (show 0<=a by omega);rw[show(a:Int)-1=((a-1:Nat):Int) by omega,Go.Bu.iM O O,VM,←Gy O O];simp only[bne,Bool.not_inj_iff];rw[mq];simp only[zV];omega
def BF (sp:Sp)(x:Int):Int:=if fG sp x=0 then sp.wd (x.toNat/8)else 0
theorem Pt (h:HH U F L H)(x:Int)(hx:x<=9223372036854775807){R:Int->Int->Hp->Prop}(hR:∀σ',bK U σ'->R (BF H.sp x) (fG H.sp x) σ'):Yz.c (aW L.p) x U R:=O6 h x hx hR
end Go.Ar
namespace Go.Ar
open Go Go.Vc Go.Proofs
variable {U u w w':Hp}{F B P Q:Rg}{L:dP}{H H':Hw}{t n:Nat}{g:Th}
def K0 (H:Hw)(x:Int):Option Int:=(bY H.live x).map λb=>b.2.1
theorem AJ {tb:List bZ}{size align:Int}{k:Nat}(h:gA tb size align=some k):k<tb.length:=(List.findIdx?_eq_some_iff_findIdx_eq.1 h).1
theorem Gj (h:HH U F L H)(x:Int){R:Int->Int->Hp->Prop}(hR:∀σ',bK U σ'->R ((K0 H x).getD 0) (if(K0 H x).isSome then 0 else 8) σ'):Xs.c (aW L.p) x U R:=by
 refine EW h x λσ' e=>?_;have:=hR σ' e;unfold K0 at this;cases hm:bY H.live x with
 | none=>rw[hm]at this;exact this
 | some b=>rw[hm]at this;exact this
end Go.Ar
namespace Go.Ar
open Go.Vc (bY dG di)
variable {H H':Hw}{held:List Pc}{s0:Sp}{t k j:Nat}{g:Th}{A:AR}{c:bZ}
theorem Kh (f:Th->Th)(hj:j≠t):(H.dQ t f).bQ[j]?=H.bQ[j]? := by
 simp[Hw.dQ,rK,Ne.symm hj]
theorem Na (x:Int)(hj:j≠t):(ic H t k x).bQ[j]?=H.bQ[j]? := by
 unfold ic Qq;simp only;split<;>split<;>simp only[Kh _ hj]
theorem NV (p:Ph)(hj:j≠t):(Wt H t p).1.bQ[j]?=H.bQ[j]? := by
 cases p with
 | take k=>simp only[Wt];split<;>simp only[Va,Kh _ hj]
 | cH k w=>
  simp only[Wt];split
  ·split
   ·unfold Qq;rw[Kh _ hj];rfl
   ·rfl
  ·rfl
 | cI k w=>
  simp only[Wt];split
  ·rfl
  ·unfold Qq;rw[Kh _ hj];rfl
 | grow k w=>simp only[Wt];split<;>rfl
 | fill=>simp only[Wt];split<;>simp only[Va,Kh _ hj]
 | eB m=>simp only[Wt];split<;>rfl
 | find x=>
  simp only[Wt,Uq];split
  ·rfl
  ·split
   ·rfl
   ·unfold Qq;rw[Kh _ hj]
 | put k x=>exact Na x hj
 | back=>
  simp only[Wt];split
  ·rw[G6,Kh _ hj]
  ·rfl
 | dA s a=>simp only[Wt];split<;>rfl
 | drain=>simp only[Wt,Kh _ hj]
theorem VS (p:Ph)(hj:j≠t):(Qj H t p).bQ[j]?=H.bQ[j]? := by
 unfold Qj eL;rw[Kh _ hj,NV p hj]
def fL (H:Hw)(j:Nat):Option Ph:=(H.bQ[j]?).bind (·.ph)
def tM (H H':Hw)(t:Nat):Prop:=fL H' t=none/\∀j,j≠t->fL H' j=fL H j
theorem xu (h:HI H held s0)(hg:H.bQ[t]?=some g){p:Ph}(hp:g.ph=some p)(hf:¬kH p):∃cl sz,Rq H.tb g p cl sz:=by
 have b:=(h.th g (h.mem hg)).ph;unfold gW at b;rw[hp]at b;cases p with
 | take k=>obtain⟨c,d,_⟩:=h.cls b.2;exact⟨_,_,rfl,c,d,rfl⟩
 | cH k w=>obtain⟨c,d,_⟩:=h.cls b.2.1;exact⟨_,_,rfl,c,d,rfl⟩
 | cI k w=>obtain⟨c,d,_⟩:=h.cls b.2.1;exact⟨_,_,rfl,c,d,rfl⟩
 | grow k w=>obtain⟨c,d,_⟩:=h.cls b.2.1;exact⟨_,_,rfl,c,d,rfl⟩
 | fill=>
  obtain⟨k,x,j,i,e,_⟩:=b;obtain⟨c,d,_⟩:=h.cls e;exact⟨_,_,k,_,[],c,i,rfl,d,rfl⟩
 | eB m=>exact⟨_,_,rfl,rfl⟩
 | find x=>exact(hf trivial).elim
 | put k x=>exact(hf trivial).elim
 | back=>exact(hf trivial).elim
 | dA s a=>exact(hf trivial).elim
 | drain=>exact(hf trivial).elim
theorem oY (h:HI H held s0)(hg:H.bQ[t]?=some g){p:Ph}(hp:g.ph=some p){cl sz:Int}(hr:Rq H.tb g p cl sz):ik H t p/\rh H t p cl sz:=by
 cases p with
 | take k=>exact LG h hg hp hr
 | cH k w=>exact NH h hg hp hr
 | cI k w=>exact Pf h hg hp hr
 | grow k w=>exact EC h hg hp hr
 | fill=>exact Lc h hg hp hr
 | eB m=>exact IK h hg hp hr
 | find x=>exact hr.elim
 | put k x=>exact hr.elim
 | back=>exact hr.elim
 | dA s a=>exact hr.elim
 | drain=>exact hr.elim
theorem pJ (h:HI H held s0)(hg:H.bQ[t]?=some g){p:Ph}(hp:g.ph=some p)(hf:kH p):ik H t p/\mC H t g p:=by
 cases p with
 | take k=>exact hf.elim
 | cH k w=>exact hf.elim
 | cI k w=>exact hf.elim
 | grow k w=>exact hf.elim
 | fill=>exact hf.elim
 | eB m=>exact hf.elim
 | find x=>exact I9 h hg hp
 | put k x=>exact Jj h hg hp
 | back=>exact Ls h hg hp
 | dA s a=>exact Fu h hg hp
 | drain=>exact FX h hg hp
open Classical in
theorem HI.EI (h:HI H held s0)(hg:H.bQ[t]?=some g){p:Ph}(hp:g.ph=some p):ik H t p:=by
 by_cases hf:kH p
 ·exact(pJ h hg hp hf).1
 ·obtain⟨cl,b,a⟩:=xu h hg hp hf;exact(oY h hg hp a).1
theorem UC {p:Ph}(ht:t<H.bQ.length):∃g',(Qj H t p).bQ[t]?=some g'/\g'.ph=(Wt H t p).2.1:=Dc ht
theorem BO {cl sz:Int}:∀(n:Nat) {H:Hw} {held:List Pc} {s0:Sp} {g:Th} {p:Ph},HI H held s0->H.bQ[t]?=some g->g.ph=some p->Rq H.tb g p cl sz->GO H t p<=n →
 ∃m H' a e,il m H t p H' a e/\(∃held s0,HI H' held s0)/\KS H.sp H'.sp/\tM H H' t/\((e≠0/\a=0/\H'.live=H.live)\/(e=0/\bY H.live a=none/\H'.live=dG H.live a (a,sz,cl,Yf H'.bV a)))
 | n,H,held,s0,g,p,h,hg,hp,hr,hn=>by
  have ht:=(cX.1 hg).1;obtain⟨s,G⟩:=oY h hg hp hr;have i:(Wt H t p).2.1=none->tM H (Qj H t p) t:=λC=>by
   obtain⟨B,w,x⟩:=UC (p:=p) ht;exact⟨by unfold fL;rw[w];exact x.trans C,λj u=>by unfold fL;rw[VS p u]⟩
  rcases G with⟨p',B,e1,e2,e3,e4,e5⟩|⟨e1,e2,e3,e4⟩|⟨e1,e2,e3,e4⟩
  ·obtain⟨y,F,D⟩:=s.hi;obtain⟨J,b,kc⟩:=UC (p:=p) ht;rw[e3]at b;cases b;have z:(Qj H t p).tb=H.tb:=(V9 H t p).1;have E:GO (Qj H t p) t p'<n:=by omega
   obtain⟨m,H',a,e,r,hi,ks,A,d⟩:=BO (GO (Qj H t p) t p') D e3 (kc.trans e1) (by rw[z];exact e4) (zD _);refine⟨m+1,H',a,e,.next s.ok e1 r,hi,s.ks.trans ks,⟨A.1,λj u=>(A.2 j u).trans (by unfold fL;rw[VS p u])⟩,?_⟩;rw[e2]at d;exact d
  ·exact⟨1,_,_,_,.done s.ok e1,s.hi,s.ks,i e1,.inl ⟨e2,e3,e4⟩⟩
  ·exact⟨1,_,_,_,.done s.ok e1,s.hi,s.ks,i e1,.inr ⟨e2,e3,e4⟩⟩
termination_by n=>n
theorem D1:∀(n:Nat) {H:Hw} {held:List Pc} {s0:Sp} {g:Th} {p:Ph},HI H held s0->H.bQ[t]?=some g->g.ph=some p->kH p->oA g p<=n →
 ∃m H' e,il m H t p H' 0 e/\(∃held s0,HI H' held s0)/\KS H.sp H'.sp/\tM H H' t/\((∀x,p≠.find x)->e=0/\H'.live=H.live) ∧
  (∀x,p=.find x->(bY H.live x=none->e≠0/\H'.live=H.live)/\(∀b,bY H.live x=some b->e=0/\H'.live=di H.live x))
 | n,H,held,s0,g,p,h,hg,hp,hf,hn=>by
  have ht:=(cX.1 hg).1;obtain⟨s,M,Q,E,a⟩:=pJ h hg hp hf;rcases Q with⟨p',w,e1,e2,e3,e4,e5⟩|e1
  ·obtain⟨B,P,K⟩:=s.hi;obtain⟨R,i,kc⟩:=UC (p:=p) ht;rw[e4]at i;cases i;have L:oA w p'<n:=by omega
   obtain⟨m,H',e,r,hi,ks,G,C,_⟩:=D1 (oA w p') K e4 (kc.trans e1) e2 (zD _);obtain⟨F,J⟩:=C e3;refine⟨m+1,H',e,.next s.ok e1 r,hi,s.ks.trans ks,⟨G.1,λj u=>(G.2 j u).trans (by unfold fL;rw[VS p u])⟩,λd=>⟨F,J.trans (E d).2⟩,λx d=>⟨λz=>?_,λb N=>⟨F,J.trans ((a x d).2 b N).2⟩⟩⟩;have:=((a x d).1 z).1;rw[e1]at this;cases this
  ·have D:tM H (Qj H t p) t:=by
    obtain⟨w,y,A⟩:=UC (p:=p) ht;exact⟨by unfold fL;rw[y];exact A.trans e1,λj u=>by unfold fL;rw[VS p u]⟩
   have r:=il.done (H:=H) (t:=t) s.ok e1;rw[M]at r;exact⟨1,_,_,r,s.hi,s.ks,D,E,λx d=>⟨λz=>((a x d).1 z).2,(a x d).2⟩⟩
termination_by n=>n
structure ie (H H':Hw):Prop where
 hi:∃held s0,HI H' held s0
 ks:KS H.sp H'.sp
 kp:QA H' H
 ph:∀j,fL H' j=fL H j
theorem ie.refl (h:HI H held s0):ie H H:=⟨⟨held,s0,h⟩,KS.refl _,QA.refl _,λ_=>rfl⟩
theorem ie.trans {H1 H2 H3:Hw}(a:ie H1 H2)(b:ie H2 H3):ie H1 H3:=⟨b.hi,a.ks.trans b.ks,a.kp.trans b.kp,λj=>(b.ph j).trans (a.ph j)⟩
theorem CN {tb:List bZ}{kind size align addr:Int}{p:Ph}(h:iL tb kind size align addr=some p)(hx:iu addr)(hh:g.bP=[]):gW tb.length {g with ph:=some p}:=by
 unfold iL at h;split at h
 ·split at h
  ·split at h
   ·split at h
    ·rename_i k hk;cases h;exact⟨hh,AJ hk⟩
    ·cases h;exact⟨hh,O,O⟩
   ·cases h
  ·cases h
 ·split at h
  ·cases h;exact⟨hh,hx⟩
  ·split at h
   ·cases h;exact hh
   ·cases h
theorem HI.eL (h:HI H held s0)(hg:H.bQ[t]?=some g)(hn:g.ph=none){p:Ph}(hp:gW H.tb.length {g with ph:=some p})(hq:∀s a,p≠.dA s a):HI (eL H t (some p)) held s0:=by
 have b:=h.th g (h.mem hg);have e:Go.Ar.eL H t (some p) = {H with bQ:=H.bQ.set t {g with ph:=some p}}:=Zj hg _;rw[e];refine h.jR hg (live':=H.live) (λi x=>?_) h.lk (λj d=>.inl d) (λs a hp=>by cases hp;exact(hq s a rfl).elim) ⟨b.ll,b.lo,b.hb,b.hl,hp⟩;unfold gg;rw[hn];have:jn (some p) i x=0:=by
  cases p<;>first|rfl|exact(hq _ _ rfl).elim
 simp only[this];simp only[jn]
theorem Dr (h:HI H held s0)(hg:H.bQ[t]?=some g)(hn:g.ph=none):g.bP=[]:=by
 have:=(h.th g (h.mem hg)).ph;unfold gW at this;rw[hn]at this;exact this
theorem Hq (H:Hw)(thread kind size align addr:Int):(∃e,Kq H thread kind size align addr=.inl e/\e≠0)\/∃(t:Nat) (p:Ph) (g:Th),thread=(t:Int)/\H.bQ[t]?=some g/\g.ph=none/\iL H.tb kind size align addr=some p/\Kq H thread kind size align addr=.inr (t,p):=by
 unfold Kq;split
 ·split
  ·split
   ·split
    ·rename_i hth _ g hg hn _ p hp;exact .inr ⟨thread.toNat,p,g,O,hg,hn,hp,rfl⟩
    ·exact .inl ⟨1,rfl,by decide⟩
   ·exact .inl ⟨5,rfl,by decide⟩
  ·exact .inl ⟨1,rfl,by decide⟩
 ·exact .inl ⟨1,rfl,by decide⟩
theorem ES (hg:H.bQ[t]?=some g)(p:Option Ph)(hj:j≠t):fL (eL H t p) j=fL H j:=by
 unfold fL eL;rw[Kh _ hj]
theorem Dv (hg:H.bQ[t]?=some g)(hn:g.ph=none){p:Ph}(ps:tM (eL H t (some p)) H' t):∀j,fL H' j=fL H j:=λj=>by
 by_cases hj:j=t
 ·subst hj;rw[ps.1];unfold fL;rw[hg];exact hn.symm
 ·rw[ps.2 j hj,ES hg _ hj]
def rX (H:Hw)(size align:Int)(H':Hw)(a e:Int):Prop:=(e≠0/\a=0/\H'.live=H.live) ∨
 (e=0/\bY H.live a=none/\(1<=size/\size<=16384/\Uc size align=true)/\∃cl,H'.live=dG H.live a (a,(qv H.tb size align).1,cl,Yf H'.bV a)/\((∃k:Nat,cl=k/\gA H.tb size align=some k)\/cl = -1/\gA H.tb size align=none))
theorem Mm (h:HI H held s0)(thread size align:Int):∃H' a e,Hk H thread 0 size align 0 H' a e/\ie H H'/\rX H size align H' a e:=by
 rcases Hq H thread 0 size align 0 with⟨e,hs,hne⟩|⟨t,p,g,rfl,hg,hn,hq,hs⟩
 ·exact⟨H,0,e,.inl ⟨hs,hne,rfl,rfl⟩,ie.refl h,.inl ⟨hne,rfl,rfl⟩⟩
 ·have B:=Dr h hg hn;have i:=CN (g:=g) hq (by unfold iu;decide) B;unfold iL at hq;rw[zC rfl]at hq;split at hq
  ·rename_i hsz;split at hq
   ·rename_i hok;have b:qv H.tb size align=(match gA H.tb size align with
     | some k=>((H.tb.getD k ⟨8,1,1⟩).size:Int)
     | none=>vz size,0):=by
     unfold qv;rw[zC ⟨hsz.2,hok⟩]
     first|done | (cases gA H.tb size align<;>rfl)
    obtain⟨cl,d,u⟩:∃cl,Rq H.tb {g with ph:=some p} p cl (qv H.tb size align).1/\((∃k:Nat,cl=k/\gA H.tb size align=some k)\/cl = -1/\gA H.tb size align=none):=by
     cases hcv:gA H.tb size align with
     | some k=>
      rw[hcv]at hq b;cases hq;have w:=AJ hcv;have z:H.tb[k]?=some H.tb[k]:=cW w;refine⟨k,⟨rfl,H.tb[k],z,?_⟩,.inl ⟨k,rfl,rfl⟩⟩;rw[b];simp only;rw[zN,z];rfl
     | none=>
      rw[hcv]at hq b;cases hq;refine⟨-1,⟨rfl,?_⟩,.inr ⟨rfl,rfl⟩⟩;rw[b];simp only;unfold vz;omega
    have j:∀s a,p≠.dA s a:=λs a e=>by subst e;exact d.elim
    have D:=h.eL hg hn i j;have x:(Go.Ar.eL H t (some p)).bQ[t]?=some {g with ph:=some p}:=by
     have A:=(cX.1 hg).1;have e:Go.Ar.eL H t (some p) = {H with bQ:=H.bQ.set t {g with ph:=some p}}:=Zj hg _;rw[e];simp[A]
    obtain⟨m,H',a,e,r,E,ks,C,y⟩:=BO _ D x rfl d (zD _);refine⟨H',a,e,.inr ⟨t,p,m,hs,r⟩,⟨E,ks,(Km _ _ _).trans (B3 r),Dv hg hn C⟩,?_⟩;rcases y with⟨r1,r2,r3⟩|⟨r1,r2,r3⟩
    ·exact .inl ⟨r1,r2,r3⟩
    ·exact .inr ⟨r1,r2,⟨hsz.1,hsz.2,hok⟩,cl,r3,u⟩
   ·cases hq
  ·cases hq
def rQ (H:Hw)(thread addr:Int)(H':Hw)(e:Int):Prop:=
 (e≠0/\H'=H/\Kq H thread 1 0 0 addr=.inl e)\/((∃p,Kq H thread 1 0 0 addr=.inr p)/\bY H.live addr=none/\e≠0/\H'.live=H.live)\/((∃p,Kq H thread 1 0 0 addr=.inr p)/\∃b,bY H.live addr=some b/\e=0/\H'.live=di H.live addr)
theorem IZ (h:HI H held s0)(hg:H.bQ[t]?=some g)(hn:g.ph=none){p:Ph}(hp:gW H.tb.length {g with ph:=some p})(hf:kH p)(hq:∀s a,p≠.dA s a):∃m H' e,il m (eL H t (some p)) t p H' 0 e/\ie H H'/\((∀x,p≠.find x)->e=0/\H'.live=H.live) ∧
 (∀x,p=.find x->(bY H.live x=none->e≠0/\H'.live=H.live)/\(∀b,bY H.live x=some b->e=0/\H'.live=di H.live x)):=by
 have w:=h.eL hg hn hp hq;have d:(Go.Ar.eL H t (some p)).bQ[t]?=some {g with ph:=some p}:=by
  have j:=(cX.1 hg).1;have e:Go.Ar.eL H t (some p) = {H with bQ:=H.bQ.set t {g with ph:=some p}}:=Zj hg _;rw[e];simp[j]
 obtain⟨m,H',e,r,z,ks,u,i,y⟩:=D1 _ w d rfl hf (zD _);exact⟨m,H',e,r,⟨z,ks,(Km _ _ _).trans (B3 r),Dv hg hn u⟩,i,y⟩
theorem Fg (h:HI H held s0)(thread addr:Int)(hx:iu addr):∃H' e,Hk H thread 1 0 0 addr H' 0 e/\ie H H'/\rQ H thread addr H' e:=by
 rcases Hq H thread 1 0 0 addr with⟨e,hs,hne⟩|⟨t,p,g,rfl,hg,hn,hq,hs⟩
 ·exact⟨H,e,.inl ⟨hs,hne,rfl,rfl⟩,ie.refl h,.inl ⟨hne,rfl,hs⟩⟩
 ·have d:=CN (g:=g) hq hx (Dr h hg hn);have j:p=.find addr:=by unfold iL at hq;simp at hq;exact hq.symm
  subst j;obtain⟨m,H',e,r,op,_,i⟩:=IZ h hg hn d trivial (λs a e=>by cases e);refine⟨H',e,.inr ⟨t,_,m,hs,r⟩,op,?_⟩;cases hm:bY H.live addr with
  | none=>exact .inr (.inl ⟨⟨_,hs⟩,hm,(i addr rfl).1 hm⟩)
  | some b=>exact .inr (.inr ⟨⟨_,hs⟩,b,hm,(i addr rfl).2 b hm⟩)
end Go.Ar
namespace Go.Ar
open Go Go.Vc Go.Proofs
variable {U u w w':Hp}{F B P Q:Rg}{L:dP}{H H':Hw}{t n k:Nat}{A:AR}{Y:Lay}
theorem Fr.refl (A:AR):Fr A A:=⟨rfl,rfl,rfl⟩
theorem Fr.trans {A B C:AR}(h:Fr B A)(k:Fr C B):Fr C A:=⟨k.1.trans h.1,k.2.1.trans h.2.1,k.2.2.trans h.2.2⟩
end Go.Ar
namespace Go.Ar
variable {A:AR}
def pL (tb:List bZ)(n room m:Nat):Wd:=⟨tb,KZ n,List.replicate m (eR n room tb),[]⟩
theorem O8 {n room:Nat}{tb:List bZ}(h1:32<=n)(h2:n<=1024)(h3:n%16=0)(h6:tb.length<=40)(h7:∀c∈tb,c.ok):GA (eR n room tb)/\∀p,(eR n room tb).f p=0:=by
 have i:∀p,(eR n room tb).f p=0:=λp=>by
  show(List.replicate n 0).getD p 0=0;rw[zN,lJ];split<;>rfl
 have a:∀{k:Nat} {g:List cF},(List.replicate tb.length ([]:List cF))[k]?=some g->g=[]:=λh=>by
  rw[lJ]at h;split at h<;>simp at h;exact h
 have b:∀{k:Nat} {t:fX},(List.replicate tb.length (⟨0,[]⟩:fX))[k]?=some t->t.bs=[]:=λh=>by
  rw[lJ]at h;split at h<;>simp at h;rw[←h]
 refine⟨⟨⟨by simp[eR],h1,h2,h3,λp=>by rw[i];omega,λp=>by rw[i];simp[eR],λp=>by rw[i];simp[eR,Go.Bu.gZ],λp=>by rw[i,i]⟩,h6,by simp[eR],by simp[eR],λk c g d=>?_,λk c g d s m=>?_,λk c g d p=>?_,λp=>?_,λp=>.inr (Nat.zero_le _),by simp[eR],by simp[eR],λk t j=>?_,λk c g t d j=>?_,λk c t d j=>?_⟩,i⟩
 ·have e:=a d.2;subst e;exact⟨h7 c (zG d.1),by simp,by simp⟩
 ·have e:=a d.2;subst e;simp at m
 ·have e:=a d.2;subst e;constructor
  ·intro h;cases h
  ·rintro⟨s,m,_⟩;simp at m
 ·constructor
  ·intro h;cases h
  ·rintro⟨r,hr,_⟩;simp[eR]at hr
 ·have:=b j;rw[this];exact qG
 ·have:=b j;rw[this];simp
 ·have:=b j;rw[this];simp
theorem Of {tb:List bZ}{n room m:Nat}(h1:32<=n)(h2:n<=1024)(h3:n%16=0)(h6:tb.length<=40)(h7:∀c∈tb,c.ok):WI (pL tb n room m):=by
 obtain⟨g,d⟩:=O8 (room:=room) h1 h2 h3 h6 h7;have get:∀{k:Nat} {A:AR},(pL tb n room m).bV[k]?=some A->A=eR n room tb:=λ{k A} h=>by
  have h:(List.replicate m (eR n room tb))[k]?=some A:=h;rw[lJ]at h;split at h<;>simp at h;exact h.symm
 have b:∀p,gf (KZ n).st p=0:=λp=>by
  show(List.replicate n 0).getD p 0=0;rw[zN,lJ];split<;>rfl
 refine⟨λk A h=>by rw[get h];exact g,λk A h=>?_,λk A h=>by rw[get h];rfl,λk A h p a=>by rw[get h];exact d p,λp a=>(a (b p)).elim,λp k l A B E F h1 h2=>?_,qG,λp a=>by simp[pL]at a,λk A h j y u=>?_,λk A h r x=>?_⟩
 ·rw[get h];exact⟨by simp[pL,KZ,eR],λp a=>(a (d p)).elim,λp a=>by rw[d p]at a;omega,λp=>by show gf (KZ n).st p<=2;rw[b];omega⟩
 ·rw[get E]at h1;exact(h1 (d p)).elim
 ·rw[get h]at u;obtain⟨c,C,w,z⟩:=u;have e:C=[]:=by
   have h2:=w.2;simp only[eR]at h2;rw[lJ]at h2;split at h2<;>simp at h2;exact h2
  subst e;obtain⟨G,s,i,D,_⟩:=(VC (g.cD _ _ _ w)).1 z;simp at D
 ·rw[get h]at x;simp[eR]at x
end Go.Ar
namespace Go.Ar
open Go.Vc (bY dG di)
variable {H H':Hw}{held:List Pc}{s0:Sp}{t k j:Nat}{g:Th}{A:AR}{c:bZ}
theorem I8 {tb:List bZ}{cf:Cf}(h1:32<=cf.aF)(h2:cf.aF<=1024)(h3:cf.aF%16=0)(h4:1<=cf.gL)(h6:tb.length<=40)(h7:∀c∈tb,c.ok):HI (VG tb cf) [] (KZ cf.aF):=by
 have u:=Of (tb:=tb) (n:=cf.aF) (room:=cf.room) (m:=cf.gL) h1 h2 h3 h6 h7;have i:∀g∈(VG tb cf).bQ,g=⟨List.replicate tb.length gS,[],none⟩:=λg d=>(wg.1 d).2;have r:∀k,(List.replicate tb.length gS).getD k gS=gS:=λk=>by
  rw[zN,lJ];split<;>rfl
 refine⟨u,je.refl _,λk x=>?_,qG,λe A=>by simp[VG]at A,λg d s a j=>?_,λg d=>?_,h7,?_,?_⟩
 ·have B:∀(n:Nat) (f:Th->Nat) (g:Th),f g=0->((List.replicate n g).map f).sum=0:=λn f g h=>by
   rw[sv,h]
   induction n with
   | zero=>rfl
   | succ n ih=>rw[tY,m7,ih]
  have w:gg ⟨List.replicate tb.length gS,[],none⟩ k x=0:=by
   unfold gg k9;split
   ·simp only[r];rfl
   ·rfl
  have:oU (VG tb cf) k x=0:=by
   unfold oU;show ld [] k x+((List.replicate cf.threads (⟨List.replicate tb.length gS,[],none⟩:Th)).map λg=>gg g k x).sum=0;rw[B _ _ _ w];rfl
  rw[this,QT];rintro⟨p,j,_⟩;simp at j
 ·rw[i g d]at j;cases j
 ·rw[i g d];refine⟨by simp[VG],λl z=>?_,λb y=>by simp at y,by simp,by unfold gW;rfl⟩;rw[(wg.1 z).2];exact⟨fD.nil,by simp[gS]⟩
 ·show 1<=(List.replicate cf.gL (eR cf.aF cf.room tb)).length;simpa using h4
 ·show(List.replicate cf.aF 0).length=cf.aF;simp
def KL (H H':Hw):Prop:=∀e∈H.live,∀w:Nat,e.1<=((8*w:Nat):Int)->((8*w:Nat):Int)<e.1+e.2.2.1->H'.sp.wd w=H.sp.wd w
theorem HI.vM (h:HI H held s0):WI ⟨H.tb,s0,H.bV,held⟩:=h.wi
theorem HI.mapped (h:HI H held s0){p:Pc}(hp:p∈held){x:Nat}(h1:p.addr<=x)(h2:x<p.addr+p.size):gf H.sp.st (x/256)≠0:=by
 obtain⟨A,a,_⟩:=h.wi.hf p hp;have e1:=h.wi.nI hp a h1 h2;have:=(h.wi.ow _ A a).own (x/256) O;intro hz;exact this ((h.mn.z _).1 hz)
theorem HI.kl (h:HI H held s0)(k:KS H.sp H'.sp):KL H H':=λe b w j g=>by
 obtain⟨_,p,d,_,_,i,m,_⟩:=h.lv e b;have a:=h.mapped d (x:=8*w) O O;exact(k.k _ a).2 w O
theorem KL.refl (H:Hw):KL H H:=λ_ _ _ _ _=>rfl
theorem KL.trans {H1 H2 H3:Hw}(a:KL H1 H2)(b:KL H2 H3)(hl:∀e∈H1.live,e∈H2.live):KL H1 H3:=λe d w g i=>(b e (hl e d) w g i).trans (a e d w g i)
structure lX (H H':Hw):Prop where
 hi:∃held s0,HI H' held s0
 live:H'.live=H.live
 bQ:H'.bQ=H.bQ
 kp:QA H' H
 kl:KL H H'
theorem lX.refl (h:HI H held s0):lX H H:=⟨⟨_,_,h⟩,rfl,rfl,QA.refl _,KL.refl _⟩
theorem lX.trans {H1 H2 H3:Hw}(a:lX H1 H2)(b:lX H2 H3):lX H1 H3:=⟨b.hi,b.live.trans a.live,b.bQ.trans a.bQ,a.kp.trans b.kp,a.kl.trans b.kl λe d=>by rw[a.live];exact d⟩
theorem HI.n (h:HI H held s0)(hk:H.bV[k]?=some A):A.n=H.cf.aF:=by
 have:=(h.wi.ow k A hk).l;have b:=h.mn.l;have a:=h.sl;simp only at this;omega
theorem WI.wd {W:Wd}(h:WI W)(f:Nat->Int):WI {W with sp:={W.sp with wd:=f}}:=
 ⟨h.ga,λk A hk=>⟨(h.ow k A hk).l,(h.ow k A hk).own,(h.ow k A hk).cl,(h.ow k A hk).le⟩,h.tb,h.low,h.own,h.one,h.hk,h.hf,h.ht,h.hr⟩
theorem Dd {sp:Sp}{x:Int}(h:fG sp x=0):0<=x/\x%8=0/\gf sp.st (x.toNat/256)≠0:=by
 unfold fG at h;split at h
 ·cases h
 ·split at h
  ·cases h
  ·exact⟨O,O,by assumption⟩
theorem Bg (sp:Sp)(x v:Int):(ZL sp x v).st.length=sp.st.length/\(∀p,gf (ZL sp x v).st p=0↔gf sp.st p=0)/\∀w,(ZL sp x v).wd w=if fG sp x=0/\w=x.toNat/8 then v else sp.wd w:=by
 unfold ZL;split
 ·rename_i h0;have a:=Dd h0;refine⟨by simp[mr],λp=>?_,λw=>?_⟩
  ·show gf (sp.st.set (x.toNat/8/32) 2) p=0↔_;have b:x.toNat/8/32=x.toNat/256:=by omega
   rw[b];unfold gf at a ⊢;rw[zN]at a ⊢;rw[zN,mH];split
   ·rename_i he;split
    ·rw[←he];simp only[oB];exact⟨λh=>O,λh=>(a.2.2 h).elim⟩
    ·rename_i hl;rw[zT O]at a;exact(a.2.2 rfl).elim
   ·exact Iff.rfl
  ·show(if w=x.toNat/8 then v else sp.wd w)=_
   by_cases hw:w=x.toNat/8
   ·rw[zC hw,zC ⟨h0,hw⟩]
   ·rw[zB hw,zB λh=>hw h.2]
 ·exact⟨rfl,λ_=>Iff.rfl,λw=>by rw[zB λh=>by have:=h.1;contradiction]⟩
theorem HI.write (h:HI H held s0)(x v:Int):HI {H with sp:=ZL H.sp x v} held {s0 with wd:=(ZL H.sp x v).wd}:=by
 obtain⟨a,b,_⟩:=Bg H.sp x v;exact⟨h.wi.wd _,⟨a.trans h.mn.l,λp=>(b p).trans (h.mn.z p),rfl⟩,h.cn,h.lk,h.lv,h.gv,h.th,h.ok,h.a1,a.trans h.sl⟩
end Go.Ar
namespace Go.Ar
open Go Go.Vc Go.Proofs
variable {U u w w':Hp}{F B P Q:Rg}{L:dP}{H H':Hw}{t n:Nat}{g:Th}
end Go.Ar
namespace Go.Proofs
open Go.Vc
set_option maxRecDepth 100000
def XE.h:Hn:=.q .o2 (.q (.q (.cS (.seq [.op,.op,.op,.cO false 2 [.op,.op]])) .aJ) (.q .o1 (.q .o1 (.q (.k (.loop [(4,.one .s),(5,.I)] (.q (.q .o2 (.c .l .l)) (.k (.q .o7 .o6))))) (.q .o6 (.q .o1 (.q (.q .o1 (.k (.loop [(6,.one .s),(7,.I)] (.q (.q .o4 (.c .l .l)) (.q (.k (.q (.cS (.gQ true [] [(70,.one .b)] (.tk [0,1,2,3,4,5] (.split 43 (.tk [6,7,8,9,10,11,12,13,14,15,16,17,18,19,20,21,22,23,24,25,26,27,28,29,30,31,32] (.done)) (.tk [6,7,8,9,10,11,12,13,14,15,16,17,18,19] (.split 57 (.tk [20,21,22,23,24,25,26,27,28,29,30,31,32] (.done)) (.tk [20,21,22,23,25,26,27,28,29] (.all [(24,.all [(30,.take 31 (.take 32 (.done)))])])))))))) (.c .o8 .l))) .o3))))) (.q .o3 .l))))))))
def XE.v (a:Int)(b:Hp)(c:Sl->Int->Hp->Prop):Prop:=bR (λd e=>If d (c ⟨none,0,0⟩ 1 e) (YC [.s,bN] (λf=>f ⟨none,0,0⟩ 8 e) λg (h:Sl) (i:Int) j=>If (i<512) (Xg.c i a j λk l m n=>aV #[.I k,.I l,.I m] 137 n λo p=>App h 3 24 137 [.I 0,.I 0,.I 0] ⟨some o,1,1⟩ p λq r=>XF.c i a r λs t=>bL (i+s) λu=>g q u t) (Xg.c 512 a j λv w x y=>aV #[.I v,.I w,.I x] 137 y λz aa=>App h 3 24 137 [.I 0,.I 0,.I 0] ⟨some z,1,1⟩ aa λab ac=>YC [.s,bN] (λad=>ad ⟨none,0,0⟩ 0 ac) λae (af:Sl) (ag:Int) ah=>If (ag<((ab.len:Nat):Int)) (Jn [.b] (λ(ai:Bool) aj=>If ai (Ix ab.a ab.len ag 3 λak=>aQ ak 0 aj λal=>aQ ak 1 aj λam=>aQ ak 2 aj λan=>aV #[.I al,.I am,.I an] 137 aj λao ap=>App af 3 24 137 [.I 0,.I 0,.I 0] ⟨some ao,1,1⟩ ap λaq ar=>bL (ag+1) λau=>ae aq au ar) (bL (ag+1) λav=>ae af av aj)) λaw=>eN ah λax=>bL (((ab.len:Nat):Int)-1) λay=>If (ag==ay) (aw true ah) (Ix ab.a ab.len ag 3 λaz=>aS ax az 1 λa0=>bL (ag+1) λa1=>Ix ab.a ab.len a1 3 λa2=>aS ax a2 1 λa3=>If (a0 != a3) (aw true ah) (Ix ab.a ab.len ag 3 λa4=>aS ax a4 0 λa5=>aS ax a4 1 λa6=>aS ax a4 2 λa7=>bL (ag+1) λa8=>Ix ab.a ab.len a8 3 λa9=>aS ax a9 0 λba=>aS ax a9 1 λbb=>aS ax a9 2 λbc=>WH.c a5 a6 a7 ah λbd be=>
 And (ax be) <| WH.c ba bb bc be λbf bg=>And (ax bg) <| aw (bd != bf) bg))) (c af 0 ah)))) λbh=>If (a<2) (bh true b) (bh (decide (a>16)) b)
theorem XE.o {a b c}(d:XE.v a b c):XE.c a b c:=Wa Tryz.func100 (x:=XE.h) (R0 d)
def Xg.h:Hn:=.q .o1 (.q .o8 (.q (.q .o1 (.k (.loop [(6,.I)] (.q (.q .o2 (.c .l .l)) (.q (.k (.q (.cS (.seq [.op,.op,.op,.op,.op,.cO true 9 (RI.ops 9)])) (.c .o3 .l))) .o3))))) .aL))
def Xg.v (a b:Int)(c:Hp)(d:Int->Int->Int->Hp->Prop):Prop:=aV #[.I 0,.I 0,.I 0] 137 c λe f=>Nz a<|bL ((512:Int).tdiv a) λg=>aV #[.I 0,.I 0,.I 0] 137 f λh i=>aR h 0 (.I a) i λj=>aR h 1 (.I 4) j λk=>aR h 2 (.I (if 32<(if 2>g then 2 else g)then 32 else(if 2>g then 2 else g))) k λl=>YC [bN] (λm=>m 4 l) λn (o:Int) p=>If (o≥1) (bL (o*256) λq=>bR (λr s=>If r (aR h 1 (.I o) s λt=>bL (o-1) λu=>n u t) (bL (o-1) λv=>n v s)) λw=>If (q≥a) (bL (o*256) λx=>Nz a <| bL (b*(x.tmod a)) λy=>bL (o*256) λz=>w (decide (y<=z)) p) (w false p)) (aQ h 0 p λaa=>aQ h 1 p λab=>aQ h 2 p λac=>aR e 0 (.I aa) p λad=>aR e 1 (.I ab) ad λae=>aR e 2 (.I ac) ae λaf=>aQ e 0 af λag=>aQ e 1 af λah=>aQ e 2 af λai=>d ag ah ai af)
theorem Xg.o {a b c d}(e:Xg.v a b c d):Xg.c a b c d:=Wa Tryz.func137 (x:=Xg.h) (R0 e)
def XF.h:Hn:=.q .o1 (.q .o1 (.q (.k (.loop [(5,.I)] (.q (.q .o6 (.c .l .l)) (.k .o3)))) .aL))
def XF.v (a b:Int)(c:Hp)(d:aN):Prop:=YC [bN] (λe=>e 8 c) λf (g:Int) h=>bL (2*g) λi=>Nz b<|bL (a.tdiv b) λj=>If (i<=j) (bL (2*g) λk=>f k h) (d g h)
theorem XF.o {a b c d}(e:XF.v a b c d):XF.c a b c d:=Wa Tryz.func138 (x:=XF.h) (R0 e)
def WH.h:Hn:=.q .o2 (.q .o1 (.q (.k (.loop [(3,.I)] (.q (.q .o9 (.c .l .l)) (.k .o3)))) .aL))
def WH.v (a b c:Int)(d:Hp)(e:aN):Prop:=aV #[.I a,.I b,.I c] 137 d λf g=>YC [bN] (λh=>h 0 g) λi (j:Int) k=>bL (j+1) λl=>aQ f 0 k λm=>bL (l*m) λn=>aQ f 1 k λo=>bL (o*256) λp=>If (n<=p) (bL (j+1) λq=>i q k) (e j k)
theorem WH.o {a b c d e}(f:WH.v a b c d e):WH.c a b c d e:=Wa Tryz.func139 (x:=WH.h) (R0 f)
end Go.Proofs
namespace Go.Ar
open Go Go.Vc Go.Proofs
variable {U w:Hp}
abbrev T3:=Int×Int×Int
def v3 (x:T3):List Value:=[.int .i64 x.1,.int .i64 x.2.1,.int .i64 x.2.2]
def lg (l:List T3):List Value:=l.flatMap v3
theorem xK (l:List T3):(lg l).length=l.length*3:=by
 induction l with
 | nil=>rfl
 | cons x l ih=>simp only[lg,qQ,zQ,v3,zW,kI]at *;omega
theorem EN (l:List T3)(x:T3):lg (l++[x])=lg l++v3 x:=by simp[lg]
theorem vJ:∀{l:List T3} {i:Nat} {x:T3},l[i]?=some x->∀{d:Nat},d<3->(lg l)[i*3+d]?=(v3 x)[d]?
 | [],_,_,h,_,_=>by simp at h
 | y::l,0,x,h,d,hd=>by
  simp at h;subst h;have e:lg (y::l)=v3 y++lg l:=rfl;rw[e,zg (by simp[v3];omega)];congr 1;omega
 | y::l,i+1,x,h,d,hd=>by
  have e:lg (y::l)=v3 y++lg l:=rfl;have a:(v3 y).length=3:=rfl;rw[e,zn O,a,show(i+1)*3+d-3=i*3+d by omega];exact vJ (by simpa using h) hd
theorem A0 {Q:Rg}{s:Sl}{l:List T3}(h:Go.Vc.Own Q U s 3 (lg l)):hO U s l:=by
 have m:=h.1;rw[xK]at m;refine⟨O,λi x y z e=>?_⟩;obtain⟨b,d,g⟩:=h.cell (j:=i*3+0) (v:=.int .i64 x) ((vJ e O).trans rfl);obtain⟨p,a,u⟩:=h.cell (j:=i*3+1) (v:=.int .i64 y) ((vJ e O).trans rfl);rw[d]at a;cases a;obtain⟨p,a,r⟩:=h.cell (j:=i*3+2) (v:=.int .i64 z) ((vJ e O).trans rfl);rw[d]at a;cases a;refine⟨b,0,d,QW g,?_,?_,?_⟩
 ·rw[show 0+i*3=i*3+0 by omega];exact g
 ·rw[show 0+i*3+1=i*3+1 by omega];exact u
 ·rw[show 0+i*3+2=i*3+2 by omega];exact r
def GI (s w:Int)(n:Nat):Int:=([4,3,2,1].take n).foldl (λ(r p:Int)=>if s<=p*256/\w*((p*256)%s)<=p*256 then p else r) 4
def wk (s:Int):Int:=min 32 (max 2 (512/s))
def kx (s w:Int):T3:=(s,GI s w 4,wk s)
def ug:Nat->Int->Int->Int
 | 0,d,_=>d
 | n+1,d,q=>if 2*d<=q then ug n (2*d) q else d
def u7 (s w:Int):Int:=ug 8 8 (s/w)
def ly (x:T3):Int:=x.2.1*256/x.1
theorem Mn (s w:Int)(n:Nat):1<=GI s w n/\GI s w n<=4:=by
 have key:∀(l:List Int) (r:Int),(∀p∈l,1<=p/\p<=4)->1<=r/\r<=4->1<=l.foldl (λ(r p:Int)=>if s<=p*256/\w*((p*256)%s)<=p*256 then p else r) r/\l.foldl (λ(r p:Int)=>if s<=p*256/\w*((p*256)%s)<=p*256 then p else r) r<=4:=by
  intro l
  induction l with
  | nil=>intro r _ h;exact h
  | cons p l ih=>
   intro r hl hr;rw[pO];refine ih _ (λq a=>hl q (ou _ a)) ?_;split
   ·exact hl p qs
   ·exact hr
 refine key _ _ (λp b=>?_) O;have:=tF b;simp at this;omega
theorem Em (s w:Int)(h1:8<=s)(h2:s<=512)(hw1:2<=w)(hw2:w<=16){R:Int->Int->Int->Hp->Prop}(hR:∀σ',bK U σ'->R (kx s w).1 (kx s w).2.1 (kx s w).2.2 σ'):Xg.c s w U R:=by
 refine Xg.o ?_;unfold Xg.v;have L:1<=512/s/\512/s<=64:=⟨by rw[Int.le_ediv_iff_mul_le O];omega,Int.ediv_le_of_le_mul O O⟩;refine nw (cs:=[.int .i64 0,.int .i64 0,.int .i64 0]) λv hz e M=>nz O (ar (by rw[Yi O];omega) (by rw[Yi O];omega) ?_);rw[Yi O];refine nw (cs:=[.int .i64 0,.int .i64 0,.int .i64 0]) λv1 P e1 y=>y.s1 aA λv2 o2 E=>E.s1 aA λW o3 m=>m.s1 aA λv4 o4 F=>?_;have b:U.size≠v.size:=by omega
 have A:=Wr o4 (Wr o3 (Wr o2 (e1.bU M id) b) b) b;have Y:bK U v4:=((((e.trans e1).only o2 (.inr O)).only o3 (.inr O)).only o4 (.inr O));have p:(if 32<(if 2>512/s then 2 else 512/s)then 32 else(if 2>512/s then 2 else 512/s))=wk s:=by unfold wk;omega
 rw[p]at F;refine Z5 (a:=bN) (λ(z:Int) u=>∃n:Nat,n<=4/\z=4-(n:Int)/\bK U u/\bX u U.size [.int .i64 0,.int .i64 0,.int .i64 0]/\bX u v.size [.int .i64 s,.int .i64 (GI s w n),.int .i64 (wk s)]) (λz _=>z.toNat) ⟨0,O,rfl,Y,A,F⟩ ?_;rintro(z:Int) u ⟨n,hn,rfl,eu,hu,bu⟩;refine cR (λhge=>?_) λK=>?_
 ·have X:n<4:=by omega
  have d:GI s w (n+1)=if s<=(4-(n:Int))*256/\w*(((4-(n:Int))*256)%s)<=(4-(n:Int))*256 then 4-(n:Int)else GI s w n:=by
   have Q:([4,3,2,1]:List Int)[n]?=some (4-(n:Int)):=by
    rcases(show n=0\/n=1\/n=2\/n=3 by omega)with rfl|rfl|rfl|rfl<;>rfl
   unfold GI;rw[lj,Q,tH];rfl
  refine ar O O ?_;refine KB (λr G=>G=u/\r=decide (s<=(4-(n:Int))*256/\w*(((4-(n:Int))*256)%s)<=(4-(n:Int))*256)) (λr G ⟨C,x⟩=>?_) λJ H=>?_
  ·subst C;by_cases hc:s<=(4-(n:Int))*256/\w*(((4-(n:Int))*256)%s)<=(4-(n:Int))*256
   ·rw[zK hc]at x;rw[zC hc]at d;refine cB x (bu.s1 aA λZ o1 D=>ar O O ⟨⟨n+1,O,O,eu.only o1 (.inr O),Wr o1 hu b,by rw[d];exact D⟩,O⟩)
   ·rw[zM hc]at x;rw[zB hc]at d;exact cE x (ar O O ⟨⟨n+1,O,O,eu,hu,by rw[d];exact bu⟩,O⟩)
  ·have g:=Int.emod_nonneg ((4-(n:Int))*256) (show s≠0 by omega);have V:=Int.emod_lt_of_pos ((4-(n:Int))*256) (show 0<s by omega);have N:w*(((4-(n:Int))*256)%s)<=16*512:=Int.mul_le_mul hw2 O g O;have S:0<=w*(((4-(n:Int))*256)%s):=Int.mul_nonneg O g;refine cR (λh1=>ar O O (nz O ?_)) λh1=>H _ _ ⟨rfl,(zM λj=>h1 j.1).symm⟩;rw[Qz O];refine ar O O (ar O O (H _ _ ⟨rfl,?_⟩));rw[decide_eq_decide];exact⟨λj=>⟨h1,j⟩,λj=>j.2⟩
 ·have B:n=4:=by omega
  subst B;refine bu.rI rfl (bu.rI rfl (bu.rI rfl (hu.s1 aA λZ o1 D=>D.s1 aA λu2 o2 E=>E.s1 aA λu3 o3 m=>m.rI rfl (m.rI rfl (m.rI rfl (hR u3 ?_))))));exact((eu.only o1 (.inr O)).only o2 (.inr O)).only o3 (.inr O)
theorem M5 (s w:Int)(h1:8<=s)(h2:s<=512)(hw1:2<=w){R:aN}(hR:8<=u7 s w->u7 s w<=256->R (u7 s w) U):XF.c s w U R:=by
 refine XF.o ?_;unfold XF.v;have g:0<=s/w/\s/w<=256:=⟨Int.ediv_nonneg O O,by
  have:s/w<=s/2:=by
   apply Int.le_ediv_of_mul_le O;have:=Int.ediv_mul_le s (show w≠0 by omega);have j:s/w*2<=s/w*w:=Int.mul_le_mul_of_nonneg_left hw1 (Int.ediv_nonneg O O);omega
  omega⟩
 refine Z5 (a:=bN) (λ(d:Int) u=>u=U/\∃n:Nat,ug n d (s/w)=u7 s w/\8<=d/\d<=256/\512<=d*2^n) (λd _=>1000-d.toNat) ⟨rfl,8,rfl,O,O,by decide⟩ ?_;rintro(d:Int) u ⟨rfl,n,hst,hd1,hd2,hdn⟩;refine ar O O (nz O (ar (by rw[Yi O];omega) (by rw[Yi O];omega) ?_));rw[Yi O];cases n with
 | zero=>simp at hdn;omega
 | succ n=>
  refine cR (λb=>ar O O ⟨⟨rfl,n,?_,O,O,?_⟩,O⟩) λe=>?_
  ·rw[ug,zC b]at hst;exact hst
  ·rw[Int.pow_succ]at hdn;have:2*d*2^n=d*(2^n*2):=by rw[Int.mul_comm 2 d,Int.mul_assoc,Int.mul_comm 2 (2^n)]
   omega
  ·rw[ug,zB e]at hst;rw[←hst]at hR;exact hR hd1 hd2
theorem DD (x:T3)(h1:8<=x.1)(h2:x.1<=512)(h3:1<=x.2.1)(h4:x.2.1<=4){R:aN}(hR:∀σ',bK U σ'->R (ly x) σ'):WH.c x.1 x.2.1 x.2.2 U R:=by
 refine WH.o ?_;unfold WH.v;refine nw (cs:=[.int .i64 x.1,.int .i64 x.2.1,.int .i64 x.2.2]) λv w e g=>?_;refine Z5 (a:=bN) (λ(n:Int) u=>bK U u/\bX u U.size [.int .i64 x.1,.int .i64 x.2.1,.int .i64 x.2.2]/\0<=n/\n<=128/\n*x.1<=x.2.1*256) (λn _=>1000-n.toNat) ⟨e,g,O,O,O⟩ ?_;rintro(n:Int) u ⟨eu,bu,hn0,hn1,hn⟩;have p:(n+1)*x.1<=129*512:=Int.mul_le_mul O h2 O O;have m:0<=(n+1)*x.1:=Int.mul_nonneg O O;refine ar O O (bu.rI rfl (ar O O (bu.rI rfl (ar O O ?_))));refine cR (λb=>ar O O ⟨⟨eu,bu,O,?_,b⟩,O⟩) λj=>?_
 ·have:(n+1)*8<=(n+1)*x.1:=Int.mul_le_mul_of_nonneg_left h1 O;omega
 ·have:ly x=n:=by
   unfold ly;have r:n<=x.2.1*256/x.1:=(Int.le_ediv_iff_mul_le O).2 hn;have s:x.2.1*256/x.1<n+1:=(Int.ediv_lt_iff_lt_mul O).2 O;omega
  have d:=hR u eu;rw[this]at d;exact d
end Go.Ar