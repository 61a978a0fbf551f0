/- Texts joined. -/
import Derived.Test.YteihenagckcobaaGreatDoorO5
set_option linter.unusedVariables false
set_option linter.unusedSimpArgs false
namespace Go.Ar
variable {c:bZ}{ss:List cF}
structure dF (c:bZ) (ss:List cF):Prop where
 ok:c.ok
 tk:∀s∈ss,s.tk.length=c.n
 r7:ss.Pairwise λa b=>a.st+c.aF<=b.st
def Tk (c:bZ)(ss:List cF)(x:Int):Prop:=dX c ss x=some true
def uH (c:bZ)(ss:List cF)(p:Nat):Prop:=∃s∈ss,s.st<=p/\p<s.st+c.aF
theorem dF.pos (h:dF c ss):0<c.size:=by have:=h.ok;unfold bZ.ok at this;omega
theorem dF.pg (h:dF c ss):1<=c.aF:=by have:=h.ok;unfold bZ.ok at this;omega
theorem dF.pY (h:dF c ss):ss.Pairwise λa b=>a.st<b.st:=h.r7.imp λ{a b} d=>by have:=h.pg;omega
theorem dF.ta (h:dF c ss){i j:Nat}{s t:cF}(hi:ss[i]?=some s)(hj:ss[j]?=some t)(hij:i<j):s.st+c.aF<=t.st:=by
 obtain⟨b,rfl⟩:=cV.1 hi;obtain⟨a,rfl⟩:=cV.1 hj;exact l0.1 h.r7 i j b a hij
theorem dF.vP (h:dF c ss){i j:Nat}{s t:cF}{p:Nat}(hi:ss[i]?=some s)(hj:ss[j]?=some t)(h1:s.st<=p)(h2:p<s.st+c.aF)(h3:t.st<=p)(h4:p<t.st+c.aF):i=j:=by
 rcases pE i j with hl|hl|hl
 ·have:=h.ta hi hj hl;omega
 ·exact hl
 ·have:=h.ta hj hi hl;omega
theorem Ei (hp:0<c.size){s:cF}{i:Nat}(hi:i<c.n):s.st*256<=at_ c s i/\at_ c s i+c.size<=(s.st+c.aF)*256:=by
 have b:=bZ.vj c;have a:(i+1)*c.size<=c.n*c.size:=lU _ hi;unfold at_;rw[zm]at a;omega
theorem Hs (hp:0<c.size){s:cF}{i x:Nat}(hi:i<c.n)(h1:at_ c s i<=x)(h2:x<at_ c s i+c.size):s.st<=x/256/\x/256<s.st+c.aF:=by
 have:=Ei hp (s:=s) hi;omega
theorem V0 (h:dF c ss){k l:Nat}{s t:cF}{i j x:Nat}(hk:ss[k]?=some s)(hl:ss[l]?=some t)(hi:i<c.n)(hj:j<c.n)(h1:at_ c s i<=x)(h2:x<at_ c s i+c.size)(h3:at_ c t j<=x)(h4:x<at_ c t j+c.size):k=l/\s=t/\i=j:=by
 have b:=Hs h.pos hi h1 h2;have a:=Hs h.pos hj h3 h4;have e:=h.vP hk hl b.1 b.2 a.1 a.2;subst e;rw[hk]at hl;cases hl;refine⟨rfl,rfl,?_⟩;unfold at_ at *;have d:=h.pos;rcases pE i j with hl|hl|hl
 ·have:(i+1)*c.size<=j*c.size:=lU _ hl;rw[zm]at this;omega
 ·exact hl
 ·have:(j+1)*c.size<=i*c.size:=lU _ hl;rw[zm]at this;omega
theorem BN (h:dF c ss){s:cF}(hs:s∈ss){x:Int}{i:Nat}(hi:idx c s x=some i):i<c.n/\((s.st*256:Nat):Int)<=x/\x<(((s.st+c.aF)*256:Nat):Int)/\((at_ c s i:Nat):Int)<=x/\x<((at_ c s i+c.size:Nat):Int):=by
 obtain⟨d,b,a⟩:=(VE h.pos).1 hi;rw[h.tk s hs]at a;have:=Ei h.pos (s:=s) a;have e:at_ c s (i+1)=at_ c s i+c.size:=by unfold at_;rw[zm];omega
 rw[e]at b;omega
theorem Ct (h:dF c ss){k:Nat}{s:cF}{x:Int}{i:Nat}(hs:ss[k]?=some s)(hi:idx c s x=some i):kG c ss x=some k:=by
 obtain⟨m,g⟩:=cV.1 hs;refine m7.2 ⟨m,by rw[g,hi];rfl,λj r p=>?_⟩;have d:j<ss.length:=by omega
 obtain⟨u,e⟩:=pM.1 p;have a:=BN h (zG hs) hi;have b:=BN h (j3 d) e;have:=h.ta (cU d) hs r;omega
theorem FP (h:dF c ss){x:Int}{b:Bool}:dX c ss x=some b↔∃(k:Nat) (s:cF) (i:Nat),ss[k]?=some s/\i<c.n/\x=((at_ c s i:Nat):Int)/\s.is i=b:=by
 constructor
 ·intro hx;obtain⟨k,s,i,_,a,d,e⟩:=Ge hx;obtain⟨m,j⟩:=(Ul h.pos).1 d;rw[h.tk s (zG a)]at j;exact⟨k,s,i,a,j,m,e⟩
 ·rintro⟨k,s,i,a,hi,rfl,e⟩;have p:=h.tk s (zG a);have d:obj c s ((at_ c s i:Nat):Int)=some i:=(Ul h.pos).2 ⟨rfl,O⟩;have g:idx c s ((at_ c s i:Nat):Int)=some i:=(VE h.pos).2 ⟨sM _,by have:=h.pos;unfold at_;rw[zm];omega,O⟩;rw[Vy (Ct h a g) a,d,←e];rfl
theorem Vu (h:dF c ss){x:Int}:Tk c ss x↔∃(k:Nat) (s:cF) (i:Nat),ss[k]?=some s/\i<c.n/\x=((at_ c s i:Nat):Int)/\s.is i=true:=FP h
theorem C6 (h:dF c ss){x:Int}{a:Nat}:qH c ss x=some a↔∃(k:Nat) (s:cF) (i:Nat),ss[k]?=some s/\i<c.n/\a=at_ c s i/\((at_ c s i:Nat):Int)<=x/\x<((at_ c s i+c.size:Nat):Int):=by
 constructor
 ·intro hf;cases ho:kG c ss x with
  | none=>rw[Dr ho]at hf;cases hf
  | some k=>
   have j:=(m7.1 ho).1;have b:ss[k]?=some ss[k]:=cU j;rw[Hg ho b]at hf;obtain⟨i,g,rfl⟩:=oF.1 hf;have:=BN h (zG b) g;exact⟨k,_,i,b,this.1,rfl,this.2.2.2.1,this.2.2.2.2⟩
 ·rintro⟨k,s,i,b,g,rfl,h1,h2⟩;have m:=h.tk s (zG b);have e:at_ c s (i+1)=at_ c s i+c.size:=by unfold at_;rw[zm];omega
  have d:idx c s x=some i:=(VE h.pos).2 ⟨h1,by rw[e];exact h2,O⟩;rw[Hg (Ct h b d) b,d];rfl
theorem dF.put (h:dF c ss){k i:Nat}{s:cF}(hs:ss[k]?=some s)(v:Bool):dF c (ss.set k (s.put i v)):=by
 have r:=(cV.1 hs).1;refine⟨h.ok,λt p=>?_,?_⟩
 ·rcases yu p with p|rfl
  ·exact h.tk t p
  ·rw[show(s.put i v).tk.length=s.tk.length by simp[cF.put]];exact h.tk s (zG hs)
 ·rw[l0];intro a b ha hb hab;have g:a<ss.length:=by simpa using ha
  have m:b<ss.length:=by simpa using hb
  have d:∀j (hj:j<(ss.set k (s.put i v)).length) (hj':j<ss.length),(ss.set k (s.put i v))[j].st=ss[j].st:=by
   intro j hj hj';rw[List.getElem_set];split
   ·rename_i e;subst e;have:ss[k]=s:=(cV.1 hs).2;rw[this];rfl
   ·rfl
  rw[d a ha g,d b hb m];exact l0.1 h.r7 a b g m hab
theorem Dc {k i:Nat}{s:cF}(hs:ss[k]?=some s)(v:Bool):(ss.set k (s.put i v)).map (·.st)=ss.map (·.st):=by
 apply zo;intro j;simp only[za];by_cases hjk:j=k
 ·subst hjk;rw[zM (cV.1 hs).1,hs];rfl
 ·rw[zk (Ne.symm hjk)]
theorem BC {s:cF}{i j:Nat}{v:Bool}(hi:i<s.tk.length):(s.put i v).is j=if j=i then v else s.is j:=by
 unfold cF.is cF.put;simp only[zP];by_cases hj:j=i
 ·subst hj;rw[zM hi,zC rfl];rfl
 ·rw[zk (Ne.symm hj),zB hj]
theorem CA (h:dF c ss){k i:Nat}{s:cF}(hs:ss[k]?=some s)(hi:i<c.n)(v:Bool){y:Int}:Tk c (ss.set k (s.put i v)) y↔(y=((at_ c s i:Nat):Int)/\v=true)\/(y≠((at_ c s i:Nat):Int)/\Tk c ss y):=by
 have b:=(cV.1 hs).1;have m:=h.tk s (zG hs);have g:=h.pos;rw[Vu (h.put hs v),Vu h];constructor
 ·rintro⟨l,t,j,ht,hj,rfl,hb⟩;by_cases hlk:l=k
  ·subst hlk;rw[zM b]at ht;cases ht;rw[BC O]at hb;by_cases a:j=i
   ·subst a;rw[zC rfl]at hb;exact .inl ⟨rfl,hb⟩
   ·rw[zB a]at hb;refine .inr ⟨λe=>a ?_,l,s,j,hs,hj,rfl,hb⟩;have d:at_ c s j=at_ c s i:=by have:=Int.ofNat.inj e;exact this
    exact(V0 h hs hs hj hi (zD _) O O O).2.2
  ·rw[zk (Ne.symm hlk)]at ht;refine .inr ⟨λe=>hlk ?_,l,t,j,ht,hj,rfl,hb⟩;have d:at_ c t j=at_ c s i:=Int.ofNat.inj e;exact(V0 h ht hs hj hi (zD _) O O O).1
 ·rintro(⟨rfl,rfl⟩|⟨hne,l,t,j,ht,hj,rfl,hb⟩)
  ·exact⟨k,s.put i true,i,zM b,hi,rfl,by rw[BC O,zC rfl]⟩
  ·by_cases hlk:l=k
   ·subst hlk;rw[hs]at ht;cases ht;have a:j≠i:=λe=>hne (by rw[e]);exact⟨l,s.put i v,j,zM b,hj,rfl,by rw[BC O,zB a];exact hb⟩
   ·exact⟨l,t,j,(zk (Ne.symm hlk)).trans ht,hj,rfl,hb⟩
theorem Fj {p:Nat}:uH c ss p↔∃x∈ss.map (·.st),x<=p/\p<x+c.aF:=by
 constructor
 ·rintro⟨s,a,h⟩;exact⟨_,zE.2 ⟨s,a,rfl⟩,h⟩
 ·rintro⟨x,hx,h⟩;obtain⟨s,a,rfl⟩:=zE.1 hx;exact⟨s,a,h⟩
theorem RT {ss':List cF}(e:ss'.map (·.st)=ss.map (·.st)){p:Nat}:uH c ss' p↔uH c ss p:=by rw[Fj,Fj,e]
theorem R8 (h:dF c ss){x:Nat}{ss':List cF}(ho:iS c ss=some (x,ss')):dF c ss'/\ss'.map (·.st)=ss.map (·.st)/\¬Tk c ss (x:Int)/\∀y,Tk c ss' y↔y=(x:Int)\/Tk c ss y:=by
 unfold iS at ho;split at ho
 ·rename_i k hk;obtain⟨_,s,g,m⟩:=QC hk;rw[g]at ho;simp only at ho;split at ho
  ·rename_i i hi;cases ho;obtain⟨r,w,u,p⟩:=Gy m;rw[hi]at w;cases w;have j:i<c.n:=by rw[←h.tk s (zG g)];exact u
   have d:¬Tk c ss ((at_ c s i:Nat):Int):=λa=>by
    have z:=(FP h (x:=((at_ c s i:Nat):Int)) (b:=false)).2 ⟨k,s,i,g,j,rfl,p⟩;unfold Tk at a;rw[z]at a;cases a
   refine⟨h.put g true,Dc g true,d,λy=>?_⟩;rw[CA h g j];constructor
   ·rintro(⟨e,_⟩|⟨_,a⟩)
    ·exact .inl e
    ·exact .inr a
   ·rintro(e|a)
    ·exact .inl ⟨e,rfl⟩
    ·exact .inr ⟨λe=>d (e▸a),a⟩
  ·cases ho
 ·cases ho
theorem HM:∀(m:Nat) {ss:List cF},dF c ss->dF c (QS c m ss).2/\(QS c m ss).2.map (·.st)=ss.map (·.st)/\(QS c m ss).1.length<=m/\(QS c m ss).1.Nodup/\(∀x∈(QS c m ss).1,¬Tk c ss (x:Int))/\∀y,Tk c (QS c m ss).2 y↔(∃x∈(QS c m ss).1,y=((x:Nat):Int))\/Tk c ss y
 | 0,ss,h=>⟨h,rfl,zD _,sg,by simp[QS],by simp[QS]⟩
 | m+1,ss,h=>by
  cases ho:iS c ss with
  | none=>
   have e:QS c (m+1) ss=([],ss):=by simp[QS,ho]
   rw[e];exact⟨h,rfl,by simp,sg,by simp,by simp⟩
  | some r=>
   obtain⟨x,w⟩:=r;rw[Hu ho];obtain⟨g,z,i,a⟩:=R8 h ho;obtain⟨u,p,B,A,b,s⟩:=HM m g;refine⟨u,p.trans z,by simp;omega,zr.2 ⟨λj=>b x j ((a _).2 (.inl rfl)),A⟩,?_,λy=>?_⟩
   ·intro y hy;rcases zW.1 hy with rfl|hy
    ·exact i
    ·exact λd=>b y hy ((a _).2 (.inr d))
   ·rw[s,a];simp only[zW,exists_eq_or_imp];constructor
    ·rintro(h|h|h)
     ·exact .inl (.inr h)
     ·exact .inl (.inl h)
     ·exact .inr h
    ·rintro((h|h)|h)
     ·exact .inr (.inl h)
     ·exact .inl h
     ·exact .inr (.inr h)
theorem C2:∀(xs:List Int) {ss:List cF},dF c ss->kB c ss xs->dF c (xs.foldl (fE c) ss)/\(xs.foldl (fE c) ss).map (·.st)=ss.map (·.st)/\∀y,Tk c (xs.foldl (fE c) ss) y↔Tk c ss y/\y∉xs
 | [],ss,h,_=>⟨h,rfl,by simp⟩
 | x::xs,ss,h,hA=>by
  have hx:=hA.1 x aA;obtain⟨k,s,i,p,d,j,_⟩:=Ge hx;obtain⟨b,a⟩:=(Ul h.pos).1 j;rw[h.tk s (zG d)]at a;have e:=xO p d j;have r:=h.put d false (i:=i);have g:=hA.next h.pos;obtain⟨w,m,u⟩:=C2 xs (ss:=fE c ss x) (by rw[e];exact r) g;rw[qM];refine⟨w,m.trans (by rw[e];exact Dc d false),λy=>?_⟩;rw[u,e,CA h d a,←b];simp only[zd,and_false,false_or,zW,not_or];constructor
  ·rintro⟨⟨b,a⟩,h3⟩;exact⟨a,b,h3⟩
  ·rintro⟨a,b,h3⟩;exact⟨⟨b,a⟩,h3⟩
theorem EL {s:cF}(h0:s.many=0)(i:Nat):s.is i=false:=by
 unfold cF.many at h0;rw[xr]at h0;unfold cF.is;rw[zP];cases hi:s.tk[i]? with
 | none=>rfl
 | some b=>
  cases b
  ·rfl
  ·exact absurd (zG hi) h0
theorem dF.cG (h:dF c ss):dF c (Go.Ar.cG ss):=⟨h.ok,λs a=>h.tk s (zI.1 a).1,h.r7.filter _⟩
theorem Ia (h:dF c ss){y:Int}:Tk c (cG ss) y↔Tk c ss y:=by
 rw[Vu h.cG,Vu h];constructor
 ·rintro⟨k,s,i,hs,hi,rfl,hb⟩;obtain⟨l,a⟩:=zQ (zI.1 (zG hs)).1;exact⟨l,s,i,a,hi,rfl,hb⟩
 ·rintro⟨k,s,i,hs,hi,rfl,hb⟩;have:s∈cG ss:=zI.2 ⟨zG hs,by
   have:s.many≠0:=λb=>by rw[EL b i]at hb;cases hb
   simpa using this⟩
  obtain⟨l,a⟩:=zQ this;exact⟨l,s,i,a,hi,rfl,hb⟩
theorem Bd {x:Nat}:x∈Qe ss↔∃s∈ss,s.many=0/\s.st=x:=by
 unfold Qe;simp only[zE,zI,zT,and_assoc]
theorem FQ (h:dF c ss){p:Nat}:uH c (cG ss) p↔uH c ss p/\¬∃x∈Qe ss,x<=p/\p<x+c.aF:=by
 constructor
 ·rintro⟨s,hs,h1,h2⟩;have d:=zI.1 hs;refine⟨⟨s,d.1,h1,h2⟩,?_⟩;rintro⟨x,hx,h3,h4⟩;obtain⟨t,m,a,rfl⟩:=Bd.1 hx;obtain⟨i,g⟩:=zQ d.1;obtain⟨j,b⟩:=zQ m;have e:=h.vP g b h1 h2 h3 h4;subst e;rw[g]at b;cases b;simp[a]at d
 ·rintro⟨⟨s,hs,h1,h2⟩,hn⟩;refine⟨s,zI.2 ⟨hs,?_⟩,h1,h2⟩;have:s.many≠0:=λa=>hn ⟨s.st,Bd.2 ⟨s,hs,a,rfl⟩,h1,h2⟩;simpa using this
theorem NM (h:dF c ss):(Qe ss).Pairwise λa b=>a+c.aF<=b:=by
 unfold Qe;rw[r5];exact h.r7.filter _
theorem Vh {st:Nat}{t:cF}:t∈ik c ss st↔t=⟨st,List.replicate c.n false⟩\/t∈ss:=by
 unfold ik;rw[zL,zW];have:t∈ss↔t∈ss.takeWhile (λs=>decide (s.st<st))\/t∈ss.dropWhile (λs=>decide (s.st<st)):=by
  rw[←zL,List.takeWhile_append_dropWhile]
 rw[this];constructor
 ·rintro(h|h|h)
  ·exact .inr (.inl h)
  ·exact .inl h
  ·exact .inr (.inr h)
 ·rintro(h|h|h)
  ·exact .inr (.inl h)
  ·exact .inl h
  ·exact .inr (.inr h)
theorem C7 (h:dF c ss){st:Nat}(hd:∀s∈ss,s.st+c.aF<=st\/st+c.aF<=s.st):dF c (ik c ss st):=by
 refine⟨h.ok,λs m=>?_,?_⟩
 ·rcases Vh.1 m with rfl|m
  ·simp
  ·exact h.tk s m
 ·have g:=He h.pY st;have r:=h.pg;rw[vD];refine pK.2 ⟨h.r7.sublist (Bs _ _),rH.2 ⟨λb e=>?_,h.r7.sublist (List.drop_sublist _ _)⟩,λa u b e=>?_⟩
  ·obtain⟨i,d⟩:=zQ e;rw[kW]at d;have:=g.2 _ _ d;rcases hd b (tI e)with h1|h1
   ·omega
   ·exact h1
  ·obtain⟨i,d⟩:=zQ u;rw[zj]at d;split at d
   ·rename_i hlt;rcases zW.1 e with rfl|e
    ·have:=(g.2 _ _ d).2 hlt;rcases hd a (zG d)with h1|h1
     ·exact h1
     ·omega
    ·obtain⟨j,p⟩:=zQ e;rw[kW]at p;exact h.ta d p O
   ·cases d
theorem Cr (h:dF c ss){st:Nat}(hd:∀s∈ss,s.st+c.aF<=st\/st+c.aF<=s.st){y:Int}:Tk c (ik c ss st) y↔Tk c ss y:=by
 rw[Vu (C7 h hd),Vu h];constructor
 ·rintro⟨k,s,i,hs,hi,rfl,hb⟩;rcases Vh.1 (zG hs)with rfl|hm
  ·have:(⟨st,List.replicate c.n false⟩:cF).is i=false:=EL (by simp[cF.many,xS]) i;rw[this]at hb;cases hb
  ·obtain⟨l,a⟩:=zQ hm;exact⟨l,s,i,a,hi,rfl,hb⟩
 ·rintro⟨k,s,i,hs,hi,rfl,hb⟩;obtain⟨l,a⟩:=zQ (Vh.2 (.inr (zG hs)):s∈ik c ss st);exact⟨l,s,i,a,hi,rfl,hb⟩
theorem PD {st:Nat}(hd:∀s∈ss,s.st+c.aF<=st\/st+c.aF<=s.st):H4 c ss st=0:=by
 unfold H4;rw[zB];simp only[kC,zU,not_exists,not_and];intro s hs hlt;rcases hd s hs with h|h<;>omega
end Go.Ar
namespace Go.Ar
open Go.Bu (Zc Qx Y9 pN KV dC take Q9 Kt Bounded)
def gf (st:List Nat)(p:Nat):Nat:=st.getD p 0
def AR.f (A:AR)(p:Nat):Nat:=gf A.st p
def mn (rs:List (Nat×Nat))(p:Nat):Prop:=∃r∈rs,r.1<=p/\p<r.1+r.2
theorem OK {st:List Nat}{p:Nat}(h:gf st p≠0):p<st.length:=by
 apply Classical.byContradiction;intro hn;exact h (by unfold gf;rw[zP,zV O];rfl)
theorem uD {st:List Nat}{a b v p:Nat}(hb:b<=st.length):gf (gC st a b v) p=if a<=p/\p<b then v else gf st p:=by
 unfold gf;rw[zP,zP,U5];by_cases hp:p<st.length
 ·rw[cU hp];simp only[zX,pv]
 ·rw[zV O,zB O];rfl
theorem V2 {n a m:Nat}:Zc n (a:Int) (m:Int)=true↔1<=m/\a+m<=n:=by
 simp only[Zc,zF,zU];omega
theorem Lr {st:List Nat}{a m:Nat}{fr:List Nat}(hl:a+m<=st.length):tQ st a m fr=true↔∀p,a<=p->p<a+m->gf st p∈fr:=by
 unfold tQ;rw[j6];constructor
 ·intro h p h1 h2;have d:p<st.length:=by omega
  have:st[p]∈(st.drop a).take m:=by
   refine zG (i:=p-a) ?_;rw[zj,zC O,kW,show a+(p-a)=p by omega,cU d]
  have:=h _ this;unfold gf;rw[zP,cU d];simpa using this
 ·intro h x hx;obtain⟨i,b⟩:=zQ hx;rw[zj]at b;split at b
  ·rename_i hlt;rw[kW]at b;have:=h (a+i) O O;unfold gf at this;rw[zP,b]at this;simpa using this
  ·cases b
theorem FN {st:List Nat}{a m v:Nat}{fr:List Nat}(h1:1<=m)(hl:a+m<=st.length)(h:∀p,a<=p->p<a+m->gf st p∈fr):V7 st (a:Int) (m:Int) v fr=gC st a (a+m) v:=by
 unfold V7 GG;rw[zC (V2.2 ⟨h1,hl⟩),dE,dE,(Lr hl).2 h];rfl
structure PG (A:AR):Prop where
 len:A.st.length=A.n
 n1:32<=A.n
 n2:A.n<=1024
 n16:A.n%16=0
 le:∀p,A.f p<=3
 us:∀p,A.f p=1↔A.ow p≠0
 fr:∀p,A.S p=true↔2<=A.f p
 hp:∀p,A.f p=0↔A.f (p/16*16)=0
theorem PG.lt {A:AR}(h:PG A){p:Nat}(hp:A.f p≠0):p<A.n:=h.len▸OK hp
theorem PG.jm {A:AR}(h:PG A):Bounded A.S A.n:=λp a=>h.lt (by have:=(h.fr p).1 a;omega)
theorem PG.kE {A:AR}(h:PG A){p q:Nat}(e:p/16=q/16):A.f p=0↔A.f q=0:=by rw[h.hp p,h.hp q,e]
theorem PG.same {A B:AR}(h:PG A)(e1:B.n=A.n)(e2:B.st=A.st)(e3:B.S=A.S)(e4:B.ow=A.ow):PG B:=by
 have a:∀p,B.f p=A.f p:=λp=>by unfold AR.f;rw[e2]
 exact⟨by rw[e2,e1];exact h.len,by rw[e1];exact h.n1,by rw[e1];exact h.n2,by rw[e1];exact h.n16,λp=>by rw[a];exact h.le p,λp=>by rw[a,e4];exact h.us p,λp=>by rw[a,e3];exact h.fr p,λp=>by rw[a,a];exact h.hp p⟩
theorem DW {ow:Nat->Nat}{a m no:Nat}(h1:1<=m)(h2:a+m<=1024)(p:Nat):jB ow a m no p=if a<=p/\p<a+m then no else ow p:=by
 unfold jB;rw[zC (V2.2 ⟨h1,h2⟩)]
theorem D4 {n:Nat}{S:Nat->Bool}{a m:Nat}(h1:1<=m)(h2:a+m<=n)(h:∀p,a<=p->p<a+m->S p=false):Qx n S (a:Int) (m:Int)=dC S a (a+m):=by
 unfold Qx;rw[V2.2 ⟨h1,h2⟩,dE,dE,KV.2 h];rfl
structure Out (A B:AR) (a b:Nat):Prop where
 n:B.n=A.n
 len:B.st.length=A.st.length
 f:∀p,¬(a<=p/\p<b)->B.f p=A.f p
 ow:∀p,¬(a<=p/\p<b)->B.ow p=A.ow p
 S:∀p,¬(a<=p/\p<b)->B.S p=A.S p
theorem Out.pg {A B:AR}{a b v:Nat}(o:Out A B a b)(h:PG A)(hv:v<=3)(hf:∀p,a<=p->p<b->B.f p=v)(hw:∀p,a<=p->p<b->(v=1↔B.ow p≠0))(hS:∀p,a<=p->p<b->(B.S p=true↔2<=v))
 (hz:∀p,B.f p=0↔B.f (p/16*16)=0):PG B:=by
 refine⟨by rw[o.len,o.n];exact h.len,by rw[o.n];exact h.n1,by rw[o.n];exact h.n2,by rw[o.n];exact h.n16,λp=>?_,λp=>?_,λp=>?_,hz⟩
 ·by_cases hp:a<=p/\p<b
  ·rw[hf p hp.1 hp.2];exact hv
  ·rw[o.f p hp];exact h.le p
 ·by_cases hp:a<=p/\p<b
  ·rw[hf p hp.1 hp.2];exact hw p hp.1 hp.2
  ·rw[o.f p hp,o.ow p hp];exact h.us p
 ·by_cases hp:a<=p/\p<b
  ·rw[hf p hp.1 hp.2];exact hS p hp.1 hp.2
  ·rw[o.f p hp,o.S p hp];exact h.fr p
theorem Out.zero {A B:AR}{a b v:Nat}(o:Out A B a b)(h:PG A)(hf:∀p,a<=p->p<b->B.f p=v)(hv:v≠0)(hA:∀p,a<=p->p<b->A.f p≠0):∀p,B.f p=0↔A.f p=0:=by
 intro p;by_cases hp:a<=p/\p<b
 ·rw[hf p hp.1 hp.2];exact⟨λe=>(hv e).elim,λe=>(hA p hp.1 hp.2 e).elim⟩
 ·rw[o.f p hp]
theorem Fl {A B:AR}(h:PG A)(e:∀p,B.f p=0↔A.f p=0):∀p,B.f p=0↔B.f (p/16*16)=0:=λp=>by rw[e,e];exact h.hp p
theorem F0 {A:AR}(h:PG A){a m:Nat}(h1:1<=m)(hu:∀p,a<=p->p<a+m->A.f p=1):Out A (VU A (a,m)) a (a+m)/\(∀p,a<=p->p<a+m->(VU A (a,m)).f p=2/\(VU A (a,m)).ow p=0)/\PG (VU A (a,m))/\∀p,(VU A (a,m)).f p=0↔A.f p=0:=by
 have i:a+m<=A.n:=by have:=h.lt (p:=a+m-1) (by rw[hu _ O O];omega);omega
 have w:=h.n2;have e1:(VU A (a,m)).st=gC A.st a (a+m) 2:=FN h1 (by rw[h.len];exact i) λp d b=>by
  have:=hu p d b;unfold AR.f at this;rw[this];simp
 have e2:(VU A (a,m)).S=dC A.S a (a+m):=D4 h1 i λp d b=>by
  apply nf.2;intro hS;have:=(h.fr p).1 hS;have:=hu p d b;omega
 have s:∀p,(VU A (a,m)).ow p=if a<=p/\p<a+m then 0 else A.ow p:=λp=>DW h1 O p
 have u:∀p,(VU A (a,m)).f p=if a<=p/\p<a+m then 2 else A.f p:=λp=>by unfold AR.f;rw[e1,uD (by rw[h.len];exact i)]
 have o:Out A (VU A (a,m)) a (a+m):=⟨rfl,by rw[e1,Ku],λp e=>by rw[u,zB e],λp e=>by rw[s,zB e],λp e=>by
  rw[e2];unfold dC;have:(decide (a<=p)&&decide (p<a+m))=false:=by simp;omega
  rw[this,Bool.or_false]⟩
 have g:∀p,a<=p->p<a+m->(VU A (a,m)).f p=2:=λp d b=>by rw[u,zC ⟨d,b⟩]
 have r:∀p,a<=p->p<a+m->(VU A (a,m)).ow p=0:=λp d b=>by rw[s,zC ⟨d,b⟩]
 have j:=o.zero h g O λp d b=>by rw[hu p d b];omega
 refine⟨o,λp d b=>⟨g p d b,r p d b⟩,o.pg h O g (λp d b=>by rw[r p d b];simp) (λp d b=>?_) (Fl h j),j⟩;rw[e2,Q9];exact⟨λ_=>zD _,λ_=>.inr ⟨d,b⟩⟩
structure rD (A B:AR) (rs:List (Nat×Nat)):Prop where
 pg:PG B
 n:B.n=A.n
 tb:B.tb=A.tb
 room:B.room=A.room
 cM:B.cM=A.cM
 cD:B.cD=A.cD
 runs:B.runs=A.runs
 i:∀p,mn rs p->B.f p=2/\B.ow p=0
 o:∀p,¬mn rs p->B.f p=A.f p/\B.ow p=A.ow p
 z:∀p,B.f p=0↔A.f p=0
theorem FM:∀(rs:List (Nat×Nat)) {A:AR},PG A->(∀r∈rs,1<=r.2)->(∀r∈rs,∀p,r.1<=p->p<r.1+r.2->A.f p=1)->rs.Pairwise (λa b=>a.1+a.2<=b.1\/b.1+b.2<=a.1)->rD A (VX A rs) rs
 | [],A,h,_,_,_=>⟨h,rfl,rfl,rfl,rfl,rfl,rfl,λp ⟨r,hr,_⟩=>by simp at hr,λp _=>⟨rfl,rfl⟩,λp=>Iff.rfl⟩
 | (a,m)::rs,A,h,hp,hu,hd=>by
  have hd':=rH.1 hd;obtain⟨o,C,w,B⟩:=F0 h (hp _ (pw ..)) (hu _ (pw ..));have d:=FM rs w (λr hr=>hp r (nB _ hr)) (λr hr p u s=>by
   have:=hd'.1 r hr;simp only at this;rw[o.f p O];exact hu r (nB _ hr) p u s) hd'.2
  have e:VX A ((a,m)::rs)=VX (VU A (a,m)) rs:=rfl;rw[e];refine⟨d.pg,d.n,d.tb,d.room,d.cM,d.cD,d.runs,λp g=>?_,λp g=>?_,λp=>(d.z p).trans (B p)⟩
  ·by_cases j:mn rs p
   ·exact d.i p j
   ·have:=d.o p j;obtain⟨r,hr,u,s⟩:=g;rcases zW.1 hr with rfl|hr
    ·rw[this.1,this.2];exact C p u s
    ·exact(j ⟨r,hr,u,s⟩).elim
  ·have j:¬mn rs p:=λ⟨r,hr,x⟩=>g ⟨r,nB _ hr,x⟩;have y:¬(a<=p/\p<a+m):=λx=>g ⟨(a,m),pw ..,x⟩;have:=d.o p j;exact⟨this.1.trans (o.f p y),this.2.trans (o.ow p y)⟩
theorem B0 {A:AR}(h:PG A){a m no:Nat}(h1:1<=m)(hn:no≠0)(hS:∀p,a<=p->p<a+m->A.S p=true):Out A (dN A a m no) a (a+m)/\(∀p,a<=p->p<a+m->(dN A a m no).f p=1/\(dN A a m no).ow p=no)/\PG (dN A a m no)/\∀p,(dN A a m no).f p=0↔A.f p=0:=by
 have g:∀p,a<=p->p<a+m->2<=A.f p:=λp d b=>(h.fr p).1 (hS p d b);have s:a+m<=A.n:=by have:=h.lt (p:=a+m-1) (by have:=g (a+m-1) O O;omega);omega
 have x:=h.n2;have e1:(dN A a m no).st=gC A.st a (a+m) 1:=FN h1 (by rw[h.len];exact s) λp d b=>by
  have y:=g p d b;have z:=h.le p;unfold AR.f at y z;have:gf A.st p=2\/gf A.st p=3:=by omega
  simpa using this
 have u:∀p,(dN A a m no).ow p=if a<=p/\p<a+m then no else A.ow p:=λp=>DW h1 O p
 have w:∀p,(dN A a m no).f p=if a<=p/\p<a+m then 1 else A.f p:=λp=>by unfold AR.f;rw[e1,uD (by rw[h.len];exact s)]
 have o:Out A (dN A a m no) a (a+m):=⟨rfl,by rw[e1,Ku],λp e=>by rw[w,zB e],λp e=>by rw[u,zB e],λp e=>by
  show take A.S a (a+m) p=A.S p;unfold take;have:(decide (a<=p)&&decide (p<a+m))=false:=by simp;omega
  rw[this];simp⟩
 have i:∀p,a<=p->p<a+m->(dN A a m no).f p=1:=λp d b=>by rw[w,zC ⟨d,b⟩]
 have r:∀p,a<=p->p<a+m->(dN A a m no).ow p=no:=λp d b=>by rw[u,zC ⟨d,b⟩]
 have j:=o.zero h i O λp d b=>by have:=g p d b;omega
 refine⟨o,λp d b=>⟨i p d b,r p d b⟩,o.pg h O i (λp d b=>by rw[r p d b];simp[hn]) (λp d b=>?_) (Fl h j),j⟩;show take A.S a (a+m) p=true↔_;rw[Kt];constructor
 ·rintro⟨_,hx⟩;exact(hx ⟨d,b⟩).elim
 ·intro hx;omega
theorem Fh:∀(m:Nat) {st:List Nat} {a:Nat},(a+m)*16<=st.length->(∀p,a*16<=p->p<(a+m)*16->gf st p=0)->(Uv st a m).length=st.length/\∀p,gf (Uv st a m) p=if a*16<=p/\p<(a+m)*16 then 3 else gf st p
 | 0,st,a,hl,hz=>⟨rfl,λp=>by rw[zB O];rfl⟩
 | m+1,st,a,hl,hz=>by
  obtain⟨i1,i2⟩:=Fh m (st:=st) (a:=a) O λp d g=>hz p d O;rw[Ff];have b:gf (Uv st a m) (16*(a+m))=0:=by rw[i2,zB O];exact hz _ O O
  have ok:kA (Uv st a m) ((a+m:Nat):Int)=0:=by
   unfold kA;rw[Cs (by rw[i1];omega),zC rfl,dE];unfold gf at b;rw[zC b]
  have e:iW (Uv st a m) ((a+m:Nat):Int)=gC (Uv st a m) (16*(a+m)) (16*(a+m)+16) 3:=by
   unfold iW;rw[zC ok,dE]
  rw[e];refine⟨by rw[Ku,i1],λp=>?_⟩;rw[uD (by rw[i1];omega),i2];by_cases h1:16*(a+m)<=p/\p<16*(a+m)+16
  ·rw[zC h1,zC O]
  ·rw[zB h1];by_cases h2:a*16<=p/\p<(a+m)*16
   ·rw[zC h2,zC O]
   ·rw[zB h2,zB O]
theorem Bp {sp:Sp}{s m:Nat}(h:fA sp (s:Int) (m:Int)=0):1<=m/\s+m<=sp.st.length/\∀p,s<=p->p<s+m->gf sp.st p=0:=by
 unfold fA at h;split at h
 ·rename_i hr;obtain⟨b,d⟩:=V2.1 hr;rw[dE,dE]at h;split at h
  ·cases h
  ·rename_i hn;refine⟨b,d,λp g j=>?_⟩;have a:p<sp.st.length:=by omega
   have e:sp.st[p]∈(sp.st.drop s).take m:=by
    refine zG (i:=p-s) ?_;rw[zj,zC O,kW,show s+(p-s)=p by omega,cU a]
   simp only[kC,not_exists,not_and]at hn;have:=hn _ e;unfold gf;rw[zP,cU a];simpa using this
 ·cases h
structure Grown (A B:AR) (sp sp':Sp) (s size:Nat):Prop where
 pg:PG B
 n:B.n=A.n
 tb:B.tb=A.tb
 room:B.room=A.room
 cM:B.cM=A.cM
 cD:B.cD=A.cD
 runs:B.runs=A.runs
 ow:B.ow=A.ow
 SM:s%16=0
 s1:16<=s
 sl:s+size<=A.n
 un:∀p,s<=p->p<s+size->gf sp.st p=0
 i:∀p,s<=p->p<s+size->B.f p=3/\gf sp'.st p=1
 o:∀p,¬(s<=p/\p<s+size)->B.f p=A.f p/\gf sp'.st p=gf sp.st p
 w:∀x,¬(s*32<=x/\x<(s+size)*32)->sp'.wd x=sp.wd x
 l:sp'.st.length=sp.st.length
 pk:sp'.pk=sp.pk
theorem UA {sp:Sp}{size s:Nat}(h1:1<=size)(h:cY sp size=some s):fA sp (s:Int) (size:Int)=0/\s≠0/\(∃j,s=j*size)/\∀j,j*size<s->1<=j->fA sp ((j*size:Nat):Int) (size:Int)≠0:=by
 unfold cY at h;obtain⟨r,us,vs,u,x⟩:=List.find?_eq_some_iff_append.1 h;simp only[zF,bne_iff_ne,ne_eq,zT]at r;have e:s∈(List.range (sp.st.length/size)).map (· * size):=by rw[u];simp
 obtain⟨j,y,rfl⟩:=zE.1 e;rw[zg]at y;refine⟨r.2,r.1,⟨j,rfl⟩,λi w A=>?_⟩;have z:i<j:=Nat.lt_of_mul_lt_mul_right w;have:i*size∈us:=by
  have g:i*size∈(List.range (sp.st.length/size)).map (· * size):=zE.2 ⟨i,zg.2 O,rfl⟩;have d:((List.range (sp.st.length/size)).map (· * size)).Pairwise (· < ·):=by
   rw[r5];exact List.pairwise_lt_range.imp λ{a b} m=>Nat.mul_lt_mul_of_pos_right m O
  rw[u]at g d;rcases zL.1 g with h|h
  ·exact h
  ·rcases zW.1 h with h|h
   ·have:=wq O h;omega
   ·have:=(rH.1 (pK.1 d).2.1).1 _ h;omega
 have:=x _ this;have p:i*size≠0:=by
  have:=Nat.mul_pos (show 0<i by omega) (show 0<size by omega);omega
 simpa[p]using this
theorem CL {sp:Sp}{s m:Nat}(h:fA sp (s:Int) (m:Int)=0):(fT sp (s:Int) (m:Int)).st.length=sp.st.length/\(∀p,gf (fT sp (s:Int) (m:Int)).st p=if s<=p/\p<s+m then 1 else gf sp.st p)/\(∀x,¬(s*32<=x/\x<(s+m)*32)->(fT sp (s:Int) (m:Int)).wd x=sp.wd x)/\(fT sp (s:Int) (m:Int)).pk=sp.pk:=by
 obtain⟨d,b,_⟩:=Bp h;unfold fT;rw[zC h,dE,dE];refine⟨by simp[Sp.set,Ku],λp=>uD b,λx a=>?_,rfl⟩;show(if s*32<=x/\x<(s+m)*32 then 0 else sp.wd x)=_
 rw[zB a]
theorem SJ {A:AR}{sp:Sp}(h:PG A)(hl:sp.st.length=A.n)(hz:∀p,gf sp.st p=0->A.f p=0){size:Nat}(hs:size=16\/size=32\/size=64){B:AR}{sp':Sp}(hg:Ux A sp size=some (B,sp')) :
 ∃s,cY sp size=some s/\Grown A B sp sp' s size:=by
 unfold Ux at hg;split at hg
 ·cases hg
 ·rename_i s hgs;cases hg;obtain⟨y,D,⟨j,J⟩,_⟩:=UA O hgs;obtain⟨G,z,w⟩:=Bp y;have m:s%16=0:=by rcases hs with rfl|rfl|rfl<;>omega
  have u:size%16=0:=by rcases hs with rfl|rfl|rfl<;>omega
  have e1:s/16*16=s:=by omega
  have e2:(s/16+size/16)*16=s+size:=by omega
  have e:∀p,s<=p->p<s+size->A.f p=0:=λp d b=>hz p (w p d b);obtain⟨F,i⟩:=Fh (size/16) (st:=A.st) (a:=s/16) (by rw[e2,h.len,←hl];exact z) (by rw[e1,e2];exact e);rw[e1,e2]at i;obtain⟨E,x,H,b4⟩:=CL y;have g:s+size<=A.n:=by rw[←hl];exact z
  have C:Qx A.n A.S (s:Int) (size:Int)=dC A.S s (s+size):=D4 G g λp d b=>by
   apply nf.2;intro hS;have:=(h.fr p).1 hS;have:=e p d b;omega
  refine⟨s,hgs,⟨?_,rfl,rfl,rfl,rfl,rfl,rfl,rfl,m,O,g,w,λp d b=>⟨?_,?_⟩,λp hp=>⟨?_,?_⟩,H,E,b4⟩⟩
  ·have o:Out A {A with st:=Uv A.st (s/16) (size/16),S:=Qx A.n A.S (s:Int) (size:Int)} s (s+size):=⟨rfl,F,λp hp=>by show gf _ p=_;rw[i,zB hp];rfl,λp hp=>rfl,λp hp=>by
    show Qx A.n A.S (s:Int) (size:Int) p=A.S p;rw[C];unfold dC;have:(decide (s<=p)&&decide (p<s+size))=false:=by simp;omega
    rw[this,Bool.or_false]⟩
   have r:∀p,s<=p->p<s+size->AR.f {A with st:=Uv A.st (s/16) (size/16),S:=Qx A.n A.S (s:Int) (size:Int)} p=3:=λp d b=>by show gf _ p=3;rw[i,zC ⟨d,b⟩]
   refine o.pg h (zD _) r (λp d b=>?_) (λp d b=>?_) λp=>?_
   ·have D:=e p d b;have:=h.us p;constructor
    ·intro hx;omega
    ·intro hx;have:=this.2 hx;omega
   ·show Qx A.n A.S (s:Int) (size:Int) p=true↔_;rw[C,Q9];exact⟨λ_=>O,λ_=>.inr ⟨d,b⟩⟩
   ·by_cases hp:s<=p/\p<s+size
    ·rw[r p hp.1 hp.2,r (p/16*16) O O]
    ·rw[o.f p hp,o.f (p/16*16) O];exact h.hp p
  ·show gf (Uv A.st (s/16) (size/16)) p=3;rw[i,zC ⟨d,b⟩]
  ·rw[x,zC ⟨d,b⟩]
  ·show gf (Uv A.st (s/16) (size/16)) p=A.f p;rw[i,zB hp];rfl
  ·rw[x,zB hp]
end Go.Ar
namespace Go.Ar
open Go.Bu (Zc Qx Y9 pN KV dC take Q9 Kt Bounded full can Ys Up Zw QE ZF Ka QG Z3)
def Cl (A:AR)(k:Nat)(c:bZ)(ss:List cF):Prop:=A.tb[k]?=some c/\A.cD[k]?=some ss
def fN (A:AR)(k:Nat)(x:Int):Prop:=∃c ss,Cl A k c ss/\Tk c ss x
def gW (A:AR)(k:Nat)(x:Int):Prop:=∃t,A.cM[k]?=some t/\x∈t.bs.flatten
structure GA (A:AR):Prop where
 pg:PG A
 tb:A.tb.length<=40
 lc:A.cD.length=A.tb.length
 lt:A.cM.length=A.tb.length
 cD:∀k c ss,Cl A k c ss->dF c ss
 one:∀k c ss,Cl A k c ss->∀s∈ss,s.st/16=(s.st+c.aF-1)/16
 ow:∀k c ss,Cl A k c ss->∀p,A.ow p=k+1↔uH c ss p
 jM:∀p,A.ow p=41↔mn A.runs p
 rO:∀p,A.ow p=41\/A.ow p<=A.tb.length
 gP:∀r∈A.runs,1<=r.2
 kr:A.runs.Pairwise λa b=>a.1+a.2<=b.1\/b.1+b.2<=a.1
 pA:∀(k:Nat) (t:gD),A.cM[k]?=some t->t.bs.flatten.Nodup
 l3:∀(k:Nat) c ss (t:gD),Cl A k c ss->A.cM[k]?=some t->∀x∈t.bs.flatten,Tk c ss x
 pa:∀(k:Nat) (c:bZ) (t:gD),A.tb[k]?=some c->A.cM[k]?=some t->∀xs∈t.bs,xs.length=c.batch
structure Kp (A B:AR):Prop where
 n:B.n=A.n
 tb:B.tb=A.tb
 room:B.room=A.room
 z:∀p,B.f p=0↔A.f p=0
 t:∀p,B.f p=3->A.f p=3
theorem Kp.refl (A:AR):Kp A A:=⟨rfl,rfl,rfl,λ_=>Iff.rfl,λ_=>id⟩
theorem Kp.trans {A B C:AR}(h:Kp A B)(k:Kp B C):Kp A C:=⟨k.n.trans h.n,k.tb.trans h.tb,k.room.trans h.room,λp=>(k.z p).trans (h.z p),λp a=>h.t p (k.t p a)⟩
theorem Kp.aF {A B:AR}(e1:B.n=A.n)(e2:B.tb=A.tb)(e3:B.room=A.room)(e4:B.st=A.st):Kp A B:=⟨e1,e2,e3,λp=>by unfold AR.f;rw[e4],λp=>by unfold AR.f;rw[e4];exact id⟩
variable {A:AR}{k:Nat}{c:bZ}{ss:List cF}
theorem Cl.lt (h:Cl A k c ss):k<A.tb.length:=(cV.1 h.1).1
theorem Cl.eq {c':bZ}{ss':List cF}(h:Cl A k c ss)(h':Cl A k c' ss'):c=c'/\ss=ss':=⟨Option.some.inj (h.1.symm.trans h'.1),Option.some.inj (h.2.symm.trans h'.2)⟩
theorem GA.cl (h:GA A){k:Nat}(hk:k<A.tb.length):∃c ss t,Cl A k c ss/\A.cM[k]?=some t:=by
 have b:=h.lc;have a:=h.lt;exact⟨A.tb[k],A.cD[k],A.cM[k],⟨by simp,by simp⟩,by simp⟩
theorem GA.used (h:GA A)(hk:Cl A k c ss){s:cF}(hs:s∈ss){p:Nat}(h1:s.st<=p)(h2:p<s.st+c.aF):A.f p=1/\A.ow p=k+1:=by
 have:=(h.ow k c ss hk p).2 ⟨s,hs,h1,h2⟩;exact⟨(h.pg.us p).2 O,this⟩
theorem GA.jv (h:GA A){r:Nat×Nat}(hr:r∈A.runs){p:Nat}(h1:r.1<=p)(h2:p<r.1+r.2):A.f p=1/\A.ow p=41:=by
 have:=(h.jM p).2 ⟨r,hr,h1,h2⟩;exact⟨(h.pg.us p).2 O,this⟩
theorem GA.gK (h:GA A){r s:Nat×Nat}(hr:r∈A.runs)(hs:s∈A.runs){x:Nat}(h1:r.1<=x)(h2:x<r.1+r.2)(h3:s.1<=x)(h4:x<s.1+s.2):r=s:=by
 obtain⟨i,e⟩:=zQ hr;obtain⟨j,d⟩:=zQ hs;obtain⟨a,rfl⟩:=cV.1 e;obtain⟨b,rfl⟩:=cV.1 d;rcases pE i j with hl|hl|hl
 ·have:=l0.1 h.kr i j a b hl;omega
 ·subst hl;rfl
 ·have:=l0.1 h.kr j i b a hl;omega
theorem GA.fit (h:GA A){r:Nat×Nat}(hr:r∈A.runs):r.1+r.2<=A.n:=by
 have:=h.gP r hr;have:=h.pg.lt (p:=r.1+r.2-1) (by rw[(h.jv hr (p:=r.1+r.2-1) O O).1];omega);omega
theorem GA.oC (h:GA A):iG A:=by
 have w:=h.pg.n2;refine⟨λr b s p x d g j i=>h.gK b p d g j i,λx m a=>?_,λx m u a=>?_,λr b=>?_⟩
 ·obtain⟨r,b,d,g⟩:=(h.jM x).1 a;unfold qP;rw[y7];exact⟨r,b,by simp[d,g]⟩
 ·rcases h.rO x with e|e
  ·exact(a e).elim
  ·exact e
 ·have:=h.fit b;omega
theorem Ub (hk:Cl A k c ss){ss':List cF}{j:Nat}{d:bZ}{tt:List cF}(h:Cl {A with cD:=A.cD.set k ss'} j d tt):(j=k/\d=c/\tt=ss')\/(j≠k/\Cl A j d tt):=by
 obtain⟨b,a⟩:=h;by_cases hjk:j=k
 ·subst hjk;have e:=(cV.1 hk.2).1;simp only[zM e]at a;exact .inl ⟨rfl,Option.some.inj (b.symm.trans hk.1),(Option.some.inj a).symm⟩
 ·simp only[zk (Ne.symm hjk)]at a;exact .inr ⟨hjk,b,a⟩
theorem UE (hk:Cl A k c ss)(ss':List cF):Cl {A with cD:=A.cD.set k ss'} k c ss':=⟨hk.1,zM (cV.1 hk.2).1⟩
theorem Si {ss':List cF}{j:Nat}{d:bZ}{tt:List cF}(hjk:j≠k)(h:Cl A j d tt):Cl {A with cD:=A.cD.set k ss'} j d tt:=⟨h.1,(zk (Ne.symm hjk)).trans h.2⟩
theorem GA.kQ (h:GA A)(hk:Cl A k c ss){ss':List cF}(hC:dF c ss')(hst:ss'.map (·.st)=ss.map (·.st))(ht:∀t,A.cM[k]?=some t->∀x∈t.bs.flatten,Tk c ss' x):GA {A with cD:=A.cD.set k ss'}:=by
 refine⟨h.pg.same rfl rfl rfl rfl,h.tb,by simp[h.lc],h.lt,λj d b a=>?_,λj d b a s i=>?_,λj d b a p=>?_,h.jM,h.rO,h.gP,h.kr,h.pA,λj d b t a g=>?_,h.pa⟩
 ·rcases Ub hk a with⟨rfl,rfl,rfl⟩|⟨hne,a⟩
  ·exact hC
  ·exact h.cD j d b a
 ·rcases Ub hk a with⟨rfl,rfl,rfl⟩|⟨hne,a⟩
  ·have:s.st∈ss.map (·.st):=by rw[←hst];exact zE.2 ⟨s,i,rfl⟩
   obtain⟨t,ht,e⟩:=zE.1 this;rw[←e];exact h.one _ _ _ hk t ht
  ·exact h.one j d b a s i
 ·rcases Ub hk a with⟨rfl,rfl,rfl⟩|⟨hne,a⟩
  ·rw[RT hst];exact h.ow _ _ _ hk p
  ·exact h.ow j d b a p
 ·rcases Ub hk a with⟨rfl,rfl,rfl⟩|⟨hne,a⟩
  ·exact ht t g
  ·exact h.l3 j d b t a g
theorem yz (hk:Cl A k c ss){ss':List cF}{j:Nat}{x:Int}:fN {A with cD:=A.cD.set k ss'} j x↔(j=k/\Tk c ss' x)\/(j≠k/\fN A j x):=by
 constructor
 ·rintro⟨d,tt,hj,hx⟩;rcases Ub hk hj with⟨rfl,rfl,rfl⟩|⟨hne,hj⟩
  ·exact .inl ⟨rfl,hx⟩
  ·exact .inr ⟨hne,d,tt,hj,hx⟩
 ·rintro(⟨rfl,hx⟩|⟨hne,d,tt,hj,hx⟩)
  ·exact⟨c,ss',UE hk ss',hx⟩
  ·exact⟨d,tt,Si hne hj,hx⟩
theorem KX (hk:Cl A k c ss){x:Int}:fN A k x↔Tk c ss x:=by
 constructor
 ·rintro⟨d,tt,hj,hx⟩;obtain⟨rfl,rfl⟩:=hk.eq hj;exact hx
 ·intro hx;exact⟨c,ss,hk,hx⟩
def swp (A:AR)(k:Nat)(c:bZ)(ss:List cF):AR:=VX {A with cD:=A.cD.set k (cG ss)} ((Qe ss).map λs=>(s,c.aF))
theorem yZ {p:Nat}:mn ((Qe ss).map λs=>(s,c.aF)) p↔∃x∈Qe ss,x<=p/\p<x+c.aF:=by
 unfold mn;simp only[zE];constructor
 ·rintro⟨_,⟨x,hx,rfl⟩,h⟩;exact⟨x,hx,h⟩
 ·rintro⟨x,hx,h⟩;exact⟨_,⟨x,hx,rfl⟩,h⟩
theorem GA.jW (h:GA A)(hk:Cl A k c ss){x:Nat}(hx:x∈Qe ss){p:Nat}(h1:x<=p)(h2:p<x+c.aF):A.f p=1/\A.ow p=k+1:=by
 obtain⟨s,a,_,rfl⟩:=Bd.1 hx;exact h.used hk a h1 h2
theorem GA.pV (h:GA A)(hk:Cl A k c ss):rD {A with cD:=A.cD.set k (cG ss)} (swp A k c ss) ((Qe ss).map λs=>(s,c.aF)):=by
 have g:=h.cD k c ss hk;refine FM _ (h.pg.same rfl rfl rfl rfl) (λr e=>?_) (λr e p m i=>?_) ?_
 ·obtain⟨x,_,rfl⟩:=zE.1 e;exact g.pg
 ·obtain⟨x,j,rfl⟩:=zE.1 e;exact(h.jW hk j m i).1
 ·rw[r5];exact(NM g).imp λ{a b} d=>.inl d
theorem GA.swp (h:GA A)(hk:Cl A k c ss):GA (Go.Ar.swp A k c ss):=by
 have b:=h.pV hk;have w:=h.cD k c ss hk;have B:=hk.lt;have F:=h.tb;have cl:∀{j d m},Cl (Go.Ar.swp A k c ss) j d m->(j=k/\d=c/\m=cG ss)\/(j≠k/\Cl A j d m):=λ{j d m} a=>Ub hk ⟨by rw[←b.tb];exact a.1,by rw[←b.cD];exact a.2⟩;have own:∀p,mn ((Qe ss).map λs=>(s,c.aF)) p->A.ow p=k+1:=λp g=>by
  obtain⟨x,u,C,z⟩:=yZ.1 g;exact(h.jW hk u C z).2
 have cM:(Go.Ar.swp A k c ss).cM=A.cM:=b.cM;have tb:(Go.Ar.swp A k c ss).tb=A.tb:=b.tb;have runs:(Go.Ar.swp A k c ss).runs=A.runs:=b.runs;refine⟨b.pg,by rw[tb];exact h.tb,by rw[b.cD,tb];simp[h.lc],by rw[cM,tb];exact h.lt,λj d m a=>?_,λj d m a s y=>?_,λj d m a p=>?_,λp=>?_,λp=>?_,by rw[runs];exact h.gP,by rw[runs];exact h.kr,by rw[cM];exact h.pA,λj d m t a r=>?_,by rw[cM,tb];exact h.pa⟩
 ·rcases cl a with⟨rfl,rfl,rfl⟩|⟨hne,a⟩
  ·exact w.cG
  ·exact h.cD j d m a
 ·rcases cl a with⟨rfl,rfl,rfl⟩|⟨hne,a⟩
  ·exact h.one _ _ _ hk s (zI.1 y).1
  ·exact h.one j d m a s y
 ·by_cases g:mn ((Qe ss).map λs=>(s,c.aF)) p
  ·rw[(b.i p g).2];have E:=own p g;rcases cl a with⟨rfl,rfl,rfl⟩|⟨hne,a⟩
   ·rw[FQ w];constructor
    ·intro e;omega
    ·rintro⟨_,hn⟩;exact(hn (yZ.1 g)).elim
   ·rw[←h.ow j d m a p,E];omega
  ·rw[(b.o p g).2];rcases cl a with⟨rfl,rfl,rfl⟩|⟨hne,a⟩
   ·rw[FQ w];show A.ow p=_↔_;rw[h.ow _ _ _ hk p];exact⟨λu=>⟨u,λD=>g (yZ.2 D)⟩,λu=>u.1⟩
   ·exact h.ow j d m a p
 ·rw[runs];by_cases g:mn ((Qe ss).map λs=>(s,c.aF)) p
  ·rw[(b.i p g).2,←h.jM,own p g];omega
  ·rw[(b.o p g).2];exact h.jM p
 ·rw[tb];by_cases g:mn ((Qe ss).map λs=>(s,c.aF)) p
  ·rw[(b.i p g).2];omega
  ·rw[(b.o p g).2];exact h.rO p
 ·rw[cM]at r;rcases cl a with⟨rfl,rfl,rfl⟩|⟨hne,a⟩
  ·intro x u;exact(Ia w).2 (h.l3 _ _ _ t hk r x u)
  ·exact h.l3 j d m t a r
theorem GA.BI (h:GA A)(hk:Cl A k c ss):Kp A (Go.Ar.swp A k c ss):=by
 have b:=h.pV hk;refine⟨b.n,b.tb,b.room,b.z,λp a=>?_⟩;by_cases hi:mn ((Qe ss).map λs=>(s,c.aF)) p
 ·rw[(b.i p hi).1]at a;omega
 ·rw[(b.o p hi).1]at a;exact a
theorem GA.As (h:GA A)(hk:Cl A k c ss){j:Nat}{x:Int}:fN (Go.Ar.swp A k c ss) j x↔fN A j x:=by
 have b:=h.pV hk;have a:=h.cD k c ss hk;have e:fN (Go.Ar.swp A k c ss) j x↔fN {A with cD:=A.cD.set k (cG ss)} j x:=by unfold fN Cl;rw[b.tb,b.cD]
 rw[e,yz hk,Ia a];constructor
 ·rintro(⟨rfl,hx⟩|⟨_,hx⟩)
  ·exact(KX hk).2 hx
  ·exact hx
 ·intro hx;by_cases hjk:j=k
  ·subst hjk;exact .inl ⟨rfl,(KX hk).1 hx⟩
  ·exact .inr ⟨hjk,hx⟩
theorem U0 {k:Int}:A.ck k=true↔∃j:Nat,k=j/\j<A.tb.length:=by
 unfold AR.ck;simp only[zF,zU];constructor
 ·intro h;exact⟨k.toNat,O,O⟩
 ·rintro⟨j,rfl,h⟩;omega
structure Ob (A B:AR):Prop where
 ga:GA B
 kp:Kp A B
 runs:B.runs=A.runs
theorem Et (h:GA A)(k m:Int):Ob A (Yr A k m)/\(Yr A k m).cM=A.cM/\(Ya A k m).Nodup/\(Ya A k m≠[]->∃j:Nat,k=j/\j<A.tb.length)/\(∀x∈Ya A k m,¬fN A k.toNat (x:Int)) ∧
 ∀j y,fN (Yr A k m) j y↔fN A j y\/(j=k.toNat/\∃x∈Ya A k m,y=((x:Nat):Int)):=by
 by_cases h0:Qq A k m=0
 ·have p:A.ck k=true:=by
   unfold Qq at h0;split at h0
   ·assumption
   ·cases h0
  obtain⟨j,rfl,u⟩:=U0.1 p;obtain⟨c,ss,t,b,C⟩:=h.cl u;have s:Vk A (j:Int) m=QS c m.toNat ss:=by unfold Vk;rw[dE,b.1,b.2]
  have g:Yr A (j:Int) m = {A with cD:=A.cD.set j (QS c m.toNat ss).2}:=by unfold Yr;rw[zC h0,s,dE]
  have e:Ya A (j:Int) m=(QS c m.toNat ss).1:=by unfold Ya;rw[zC h0,s]
  rw[g,e];obtain⟨s1,s2,D,z,w,r⟩:=HM m.toNat (h.cD j c ss b);refine⟨⟨h.kQ b s1 s2 λB d x a=>(r x).2 (.inr (h.l3 j c ss B b d x a)),Kp.aF rfl rfl rfl rfl,rfl⟩,rfl,z,λ_=>⟨j,rfl,u⟩,λx a=>?_,λi y=>?_⟩
  ·rw[dE,KX b];exact w x a
  ·rw[yz b,r,dE];by_cases hij:i=j
   ·subst hij;rw[KX b];constructor
    ·rintro(⟨_,a|a⟩|⟨a,_⟩)
     ·exact .inr ⟨rfl,a⟩
     ·exact .inl a
     ·exact(a rfl).elim
    ·rintro(a|⟨_,a⟩)
     ·exact .inl ⟨rfl,.inr a⟩
     ·exact .inl ⟨rfl,.inl a⟩
   ·constructor
    ·rintro(⟨a,_⟩|⟨_,a⟩)
     ·exact(hij a).elim
     ·exact .inl a
    ·rintro(a|⟨a,_⟩)
     ·exact .inr ⟨hij,a⟩
     ·exact(hij a).elim
 ·have g:Yr A k m=A:=by unfold Yr;rw[zB h0]
  have e:Ya A k m=[]:=by unfold Ya;rw[zB h0]
  rw[g,e];exact⟨⟨h,Kp.refl A,rfl⟩,rfl,sg,by simp,by simp,by simp⟩
theorem CV {xs:List Int}(h:kB c ss xs):iD c ss xs=0:=by
 unfold iD;have b:xs.any (λx=>(dX c ss x).isNone)=false:=by
  rw[mF];intro x hx;rw[h.1 x hx];simp
 have a:xs.any (λx=>dX c ss x==some false)=false:=by
  rw[mF];intro x hx;rw[h.1 x hx];simp
 rw[b,a,zJ h.2];rfl
theorem HB (h:GA A)(hk:Cl A k c ss)(xs:List Int):QJ A (k:Int) xs=iD c ss xs:=by
 unfold QJ;rw[U0.2 ⟨k,rfl,hk.lt⟩,zC rfl,dE,hk.1,hk.2]
theorem BS (h:GA A){k:Int}{xs:List Int}(h0:QJ A k xs=0):∃(j:Nat) (c:bZ) (ss:List cF),k=j/\Cl A j c ss/\kB c ss xs:=by
 have a:A.ck k=true:=by
  unfold QJ at h0;split at h0
  ·assumption
  ·cases h0
 obtain⟨j,rfl,d⟩:=U0.1 a;obtain⟨c,ss,t,b,e⟩:=h.cl d;rw[HB h b]at h0;exact⟨j,c,ss,rfl,b,El h0⟩
theorem A9 (h:GA A){k:Int}{xs:List Int}(hd:QJ A k xs=0->∀x∈xs,¬gW A k.toNat x):Ob A (Zu A k xs)/\(Zu A k xs).cM=A.cM ∧
 (QJ A k xs=0->∀j y,fN (Zu A k xs) j y↔fN A j y/\¬(j=k.toNat/\y∈xs))/\(QJ A k xs≠0->Zu A k xs=A):=by
 by_cases h0:QJ A k xs=0
 ·obtain⟨j,c,g,rfl,e,w⟩:=BS h h0;obtain⟨D,z,u⟩:=C2 xs (h.cD j c g e) w;have p:=h.kQ e D z λt s x a=>(u x).2 ⟨h.l3 j c g t e s x a,λB=>hd h0 x B ⟨t,by rw[dE];exact s,a⟩⟩;have d:=UE e (xs.foldl (fE c) g);have r:Zu A (j:Int) xs=swp {A with cD:=A.cD.set j (xs.foldl (fE c) g)} j c (xs.foldl (fE c) g):=by
   unfold Zu swp;rw[zC h0,dE,e.1,e.2];simp only[ns]
  have b:=p.pV d;rw[r];refine⟨⟨p.swp d,(Kp.aF rfl rfl rfl rfl:Kp A {A with cD:=A.cD.set j (xs.foldl (fE c) g)}).trans (p.BI d),b.runs⟩,b.cM,λ_ i y=>?_,λC=>(C h0).elim⟩;rw[p.As d,yz e,u,dE];by_cases hij:i=j
  ·subst hij;rw[KX e];constructor
   ·rintro(⟨_,a,hy⟩|⟨a,_⟩)
    ·exact⟨a,λm=>hy m.2⟩
    ·exact(a rfl).elim
   ·rintro⟨a,hy⟩;exact .inl ⟨rfl,a,λm=>hy ⟨rfl,m⟩⟩
  ·constructor
   ·rintro(⟨a,_⟩|⟨_,a⟩)
    ·exact(hij a).elim
    ·exact⟨a,λm=>hij m.1⟩
   ·rintro⟨a,_⟩;exact .inr ⟨hij,a⟩
 ·have r:Zu A k xs=A:=by unfold Zu;rw[zB h0]
  rw[r];exact⟨⟨h,Kp.refl A,rfl⟩,rfl,λa=>(h0 a).elim,λ_=>rfl⟩
theorem GA.jY (h:GA A){k:Nat}{t':gD}(h1:t'.bs.flatten.Nodup)(h2:∀x∈t'.bs.flatten,fN A k x)(h3:∀c,A.tb[k]?=some c->∀xs∈t'.bs,xs.length=c.batch):GA {A with cM:=A.cM.set k t'}:=by
 have get:∀{j t},(A.cM.set k t')[j]?=some t->(j=k/\t=t')\/(j≠k/\A.cM[j]?=some t):=by
  intro j t a;by_cases hjk:j=k
  ·subst hjk;have e:j<A.cM.length:=by have:=(cV.1 a).1;simpa using this
   rw[zM e]at a;exact .inl ⟨rfl,(Option.some.inj a).symm⟩
  ·rw[zk (Ne.symm hjk)]at a;exact .inr ⟨hjk,a⟩
 refine⟨h.pg.same rfl rfl rfl rfl,h.tb,h.lc,by simp[h.lt],h.cD,h.one,h.ow,h.jM,h.rO,h.gP,h.kr,λj t a=>?_,λj c g t b a x d=>?_,λj c t b a=>?_⟩
 ·rcases get a with⟨rfl,rfl⟩|⟨_,a⟩
  ·exact h1
  ·exact h.pA j t a
 ·rcases get a with⟨rfl,rfl⟩|⟨_,a⟩
  ·exact(KX b).1 (h2 x d)
  ·exact h.l3 j c g t b a x d
 ·rcases get a with⟨rfl,rfl⟩|⟨_,a⟩
  ·exact h3 c b
  ·exact h.pa j c t b a
theorem xD {t':gD}{j:Nat}{x:Int}(hk:k<A.cM.length):gW {A with cM:=A.cM.set k t'} j x↔(j=k/\x∈t'.bs.flatten)\/(j≠k/\gW A j x):=by
 by_cases hjk:j=k
 ·subst hjk;have a:(A.cM.set j t')[j]?=some t':=zM hk;constructor
  ·rintro⟨t,e,hx⟩;have e:(A.cM.set j t')[j]?=some t:=e;rw[a]at e;cases e;exact .inl ⟨rfl,hx⟩
  ·rintro(⟨_,hx⟩|⟨hx,_⟩)
   ·exact⟨_,a,hx⟩
   ·exact(hx rfl).elim
 ·have a:(A.cM.set k t')[j]?=A.cM[j]? := zk (Ne.symm hjk);constructor
  ·rintro⟨t,e,hx⟩;have e:(A.cM.set k t')[j]?=some t:=e;rw[a]at e;exact .inr ⟨hjk,t,e,hx⟩
  ·rintro(⟨hx,_⟩|⟨_,t,e,hx⟩)
   ·exact(hjk hx).elim
   ·exact⟨t,a.trans e,hx⟩
theorem Hh {t:gD}(ht:A.cM[k]?=some t){x:Int}:gW A k x↔x∈t.bs.flatten:=by
 constructor
 ·rintro⟨t',e,hx⟩;rw[ht]at e;cases e;exact hx
 ·intro hx;exact⟨t,ht,hx⟩
theorem Fo (h:GA A)(k:Int):Ob A (Zx A k)/\(∀j y,fN (Zx A k) j y↔fN A j y)/\(∀x∈Yp A k,gW A k.toNat x)/\(Yp A k).Nodup/\(Yp A k≠[]->∃j:Nat,k=j/\j<A.tb.length) ∧
 ∀j y,gW (Zx A k) j y↔gW A j y/\¬(j=k.toNat/\y∈Yp A k):=by
 by_cases h0:ZY A k=0
 ·have p:A.ck k=true:=by
   unfold ZY at h0;split at h0
   ·assumption
   ·cases h0
  obtain⟨j,rfl,u⟩:=U0.1 p;obtain⟨c,J,t,E,g⟩:=h.cl u;have hne:t.bs≠[]:=by
   intro e;unfold ZY at h0;rw[p,zC rfl,dE,g]at h0;simp[e]at h0
  have D:Zx A (j:Int) = {A with cM:=A.cM.set j t.rem}:=by unfold Zx;rw[zC h0,dE,KK g]
  have C:Yp A (j:Int)=t.bs.getLast?.getD []:=by unfold Yp;rw[zC h0,dE,g]
  have w:t.bs=t.bs.dropLast++[t.bs.getLast hne]:=(List.dropLast_concat_getLast hne).symm;have F:Yp A (j:Int)=t.bs.getLast hne:=by rw[C,List.getLast?_eq_some_getLast hne];rfl
  have d:t.bs.flatten=t.bs.dropLast.flatten++t.bs.getLast hne:=by
   conv=>lhs;rw[w]
   simp
  have s:=h.pA j t g;rw[d]at s;have b:=nE.1 s;have m:t.rem.bs=t.bs.dropLast:=rfl;rw[D,F];refine⟨⟨h.jY (by rw[m];exact b.1) (λx a=>(KX E).2 (h.l3 j c J t E g x (by rw[d];exact kv _ a))) λH B G z=>h.pa j H t B g G ((List.dropLast_sublist _).subset z),Kp.aF rfl rfl rfl rfl,rfl⟩,λ_ _=>Iff.rfl,λx a=>?_,b.2.1,λ_=>⟨j,rfl,u⟩,λi y=>?_⟩
  ·rw[dE,Hh g,d];exact nJ _ a
  ·rw[xD (by rw[h.lt];exact u),m,dE];by_cases hij:i=j
   ·subst hij;rw[Hh g,d,zL];constructor
    ·rintro(⟨_,a⟩|⟨a,_⟩)
     ·exact⟨.inl a,λr=>b.2.2 y a y r.2 rfl⟩
     ·exact(a rfl).elim
    ·rintro⟨a|a,r⟩
     ·exact .inl ⟨rfl,a⟩
     ·exact(r ⟨rfl,a⟩).elim
   ·constructor
    ·rintro(⟨a,_⟩|⟨_,a⟩)
     ·exact(hij a).elim
     ·exact⟨a,λr=>hij r.1⟩
    ·rintro⟨a,_⟩;exact .inr ⟨hij,a⟩
 ·have D:Zx A k=A:=by unfold Zx;rw[zB h0]
  have C:Yp A k=[]:=by unfold Yp;rw[zB h0]
  rw[D,C];exact⟨⟨h,Kp.refl A,rfl⟩,λ_ _=>Iff.rfl,by simp,sg,by simp,by simp⟩
theorem N5 (h:GA A)(k:Int){xs:List Int}(hn:xs.Nodup)(hd:∀x∈xs,¬gW A k.toNat x):Ob A (QV A k xs)/\(∀j y,fN (QV A k xs) j y↔fN A j y) ∧
 (KQ A k xs=true->(∃j:Nat,k=j/\j<A.tb.length)/\(∀x∈xs,fN A k.toNat x)/\∀j y,gW (QV A k xs) j y↔gW A j y\/(j=k.toNat/\y∈xs))/\(KQ A k xs=false->QV A k xs=A):=by
 by_cases h0:KQ A k xs=true
 ·have C:U6 A k xs=0:=by
   unfold KQ at h0;simp only[zF,zU]at h0;exact h0.1
  have z:A.ck k=true:=by
   unfold U6 at C;split at C
   ·assumption
   ·cases C
  obtain⟨j,rfl,D⟩:=U0.1 z;obtain⟨c,H,t,u,s⟩:=h.cl D;have g:=C;unfold U6 at g;rw[z,zC rfl,dE,u.1,u.2]at g;simp only at g;have p:xs.length=c.batch:=by
   apply Classical.byContradiction;intro d;rw[zB d]at g;cases g
  rw[zC p]at g;have w:∀x∈xs,fN A j x:=by
   intro x d;split at g
   ·rename_i B;rw[j6]at B;rw[KX u];simpa[Tk]using B x d
   ·cases g
  have E:QV A (j:Int) xs = {A with cM:=A.cM.set j {t with bs:=t.bs++[xs]}}:=by unfold QV;rw[zC h0,dE,KK s]
  have r:(t.bs++[xs]).flatten=t.bs.flatten++xs:=by simp
  rw[E];refine⟨⟨h.jY ?_ ?_ ?_,Kp.aF rfl rfl rfl rfl,rfl⟩,λ_ _=>Iff.rfl,λ_=>⟨⟨j,rfl,D⟩,by rw[dE];exact w,λi y=>?_⟩,λG=>by rw[G]at h0;cases h0⟩
  ·show(t.bs++[xs]).flatten.Nodup;rw[r,nE];exact⟨h.pA j t s,hn,λa B b F e=>hd b F (by subst e;rw[dE,Hh s];exact B)⟩
  ·intro x d;have d:x∈(t.bs++[xs]).flatten:=d;rw[r,zL]at d;rcases d with d|d
   ·exact(KX u).2 (h.l3 j c H t u s x d)
   ·exact w x d
  ·intro c' hc' ys m;have m:ys∈t.bs++[xs]:=m;rcases zL.1 m with m|m
   ·exact h.pa j c' t hc' s ys m
   ·simp only[zN]at m;rw[u.1]at hc';cases hc';rw[m];exact p
  ·rw[xD (by rw[h.lt];exact D),dE];show(i=j/\y∈(t.bs++[xs]).flatten)\/_↔_;rw[r,zL];by_cases hij:i=j
   ·subst hij;rw[Hh s];constructor
    ·rintro(⟨_,d|d⟩|⟨d,_⟩)
     ·exact .inl d
     ·exact .inr ⟨rfl,d⟩
     ·exact(d rfl).elim
    ·rintro(d|⟨_,d⟩)
     ·exact .inl ⟨rfl,.inl d⟩
     ·exact .inl ⟨rfl,.inr d⟩
   ·constructor
    ·rintro(⟨d,_⟩|⟨_,d⟩)
     ·exact(hij d).elim
     ·exact .inl d
    ·rintro(d|⟨d,_⟩)
     ·exact .inr ⟨hij,d⟩
     ·exact(hij d).elim
 ·have E:QV A k xs=A:=by unfold QV;rw[zB h0]
  rw[E];exact⟨⟨h,Kp.refl A,rfl⟩,λ_ _=>Iff.rfl,λd=>(h0 d).elim,λ_=>rfl⟩
end Go.Ar
namespace Go.Ar
open Go.Bu (Zc Qx Y9 pN KV dC take Q9 Kt Bounded full can Ys Up Zw QE ZF Ka QG Z3 VT UL kZ)
variable {A:AR}{sp:Sp}{k:Nat}{c:bZ}{ss:List cF}
structure Ow (A:AR) (sp:Sp):Prop where
 l:sp.st.length=A.n
 own:∀p,A.f p≠0->gf sp.st p≠0
 cl:∀p,A.f p=3->gf sp.st p=1
 le:∀p,gf sp.st p<=2
structure St (A B:AR) (sp sp':Sp):Prop where
 ga:GA B
 ow:Ow B sp'
 n:B.n=A.n
 tb:B.tb=A.tb
 room:B.room=A.room
 same:∀p,A.f p=0->B.f p=0->gf sp'.st p=gf sp.st p
 gone:∀p,A.f p≠0->B.f p=0->gf sp'.st p=0
 new:∀p,A.f p=0->B.f p≠0->gf sp.st p=0/\16<=p
theorem St.refl (h:GA A)(hw:Ow A sp):St A A sp sp:=⟨h,hw,rfl,rfl,rfl,λ_ _ _=>rfl,λp a b=>(a b).elim,λp a b=>(b a).elim⟩
theorem Ow.len {B C:AR}{sp sp':Sp}(h:Ow B sp)(k:Ow C sp')(e:C.n=B.n):sp'.st.length=sp.st.length:=by rw[h.l,k.l,e]
theorem St.trans {B C:AR}{sp' sp'':Sp}(h:St A B sp sp')(k:St B C sp' sp''):St A C sp sp'':=by
 refine⟨k.ga,k.ow,k.n.trans h.n,k.tb.trans h.tb,k.room.trans h.room,λp a b=>?_,λp a b=>?_,λp a b=>?_⟩
 ·by_cases hB:B.f p=0
  ·rw[k.same p hB b,h.same p a hB]
  ·rw[k.gone p hB b,(h.new p a hB).1]
 ·by_cases hB:B.f p=0
  ·rw[k.same p hB b,h.gone p a hB]
  ·exact k.gone p hB b
 ·by_cases hB:B.f p=0
  ·have:=k.new p hB b;rw[h.same p a hB]at this;exact this
  ·exact h.new p a hB
theorem Ow.kp {B:AR}(hw:Ow A sp)(h:Kp A B):Ow B sp:=⟨hw.l.trans h.n.symm,λp a=>hw.own p λe=>a ((h.z p).2 e),λp a=>hw.cl p (h.t p a),hw.le⟩
theorem St.kp {B:AR}(hg:GA B)(hw:Ow A sp)(h:Kp A B):St A B sp sp:=
 ⟨hg,hw.kp h,h.n,h.tb,h.room,λ_ _ _=>rfl,λp a b=>(a ((h.z p).1 b)).elim,λp a b=>(b ((h.z p).2 a)).elim⟩
theorem Ob.st {B:AR}(o:Ob A B)(hw:Ow A sp):St A B sp sp:=St.kp o.ga hw o.kp
theorem GA.grown (h:GA A){B:AR}{sp':Sp}{s size:Nat}(g:Grown A B sp sp' s size):GA B:=by
 have e:∀{j d tt},Cl B j d tt↔Cl A j d tt:=λ{j d tt}=>by unfold Cl;rw[g.tb,g.cD]
 exact⟨g.pg,by rw[g.tb];exact h.tb,by rw[g.cD,g.tb];exact h.lc,by rw[g.cM,g.tb];exact h.lt,λj d tt a=>h.cD j d tt (e.1 a),λj d tt a=>h.one j d tt (e.1 a),λj d tt a p=>by rw[g.ow];exact h.ow j d tt (e.1 a) p,
  λp=>by rw[g.ow,g.runs];exact h.jM p,λp=>by rw[g.ow,g.tb];exact h.rO p,by rw[g.runs];exact h.gP,by rw[g.runs];exact h.kr,by rw[g.cM];exact h.pA,λj d tt t a b=>h.l3 j d tt t (e.1 a) (by rw[←g.cM];exact b),by rw[g.tb,g.cM];exact h.pa⟩
theorem Grown.st (h:GA A)(hw:Ow A sp){B:AR}{sp':Sp}{s size:Nat}(g:Grown A B sp sp' s size):St A B sp sp':=by
 have d:∀p,B.f p≠A.f p->s<=p/\p<s+size:=λp b=>by
  apply Classical.byContradiction;intro hn;exact b (g.o p hn).1
 refine⟨h.grown g,⟨g.l.trans (hw.l.trans g.n.symm),λp b=>?_,λp b=>?_,λp=>?_⟩,g.n,g.tb,g.room,λp j e=>?_,λp j e=>?_,λp j e=>?_⟩
 ·by_cases a:s<=p/\p<s+size
  ·rw[(g.i p a.1 a.2).2];omega
  ·rw[(g.o p a).2];rw[(g.o p a).1]at b;exact hw.own p b
 ·by_cases a:s<=p/\p<s+size
  ·rw[(g.i p a.1 a.2).2]
  ·rw[(g.o p a).2];rw[(g.o p a).1]at b;exact hw.cl p b
 ·by_cases a:s<=p/\p<s+size
  ·rw[(g.i p a.1 a.2).2];omega
  ·rw[(g.o p a).2];exact hw.le p
 ·refine(g.o p λa=>?_).2;rw[(g.i p a.1 a.2).1]at e;omega
 ·have:=d p O;rw[(g.i p this.1 this.2).1]at e;omega
 ·have:=d p O;exact⟨g.un p this.1 this.2,by have:=g.s1;omega⟩
theorem RW {n:Nat}{S:Nat->Bool}(hb:Bounded S n)(hn:n<=1024){j q m a:Nat}(hf:full S j q=true)(hm:m<=2^j)(ha:a<=2^j):Y9 n S m a≠none:=by
 intro h0;have s:S (q*2^j)=true:=Ys.1 hf _ (Am _ (kF j));obtain⟨i,g⟩:=Up hb s;have e:j<=i:=by
  apply Classical.byContradiction;intro hlt;exact QE g hf rfl (Am _ (kF j)) O
 have r:=ZF hb (Zw.1 g).1;have d:i<11:=by
  apply Classical.byContradiction;intro hge;have:2^11<=2^i:=pd O O;omega
 have p:2^j<=2^i:=pd O e;have:=UL h0 i d O O;have b:=(QG hb (k:=i)).2 ⟨_,rfl,g⟩;rw[this]at b;simp at b
theorem Av (m:Nat):QP m=16\/QP m=32\/QP m=64:=by
 unfold QP;split
 ·exact .inl rfl
 ·split
  ·exact .inr (.inl rfl)
  ·exact .inr (.inr rfl)
theorem MY {m:Nat}(h:m<=64):m<=QP m:=by
 unfold QP;split
 ·omega
 ·split<;>omega
theorem ES (h:GA A)(hw:Ow A sp){m a no:Nat}(h1:1<=m)(h2:m<=64)(ha:1<=a/\a<=16) :
 (cZ A sp m a no=(none,A,sp)/\Y9 A.n A.S m a=none/\cY sp (QP (max m a))=none) ∨
 ∃x A1 sp1,cZ A sp m a no=(some x,dN A1 x m no,sp1)/\Y9 A1.n A1.S m a=some x/\(A1=A/\sp1=sp\/Y9 A.n A.S m a=none/\∃s,cY sp (QP (max m a))=some s/\Grown A A1 sp sp1 s (QP (max m a))):=by
 cases ht:Y9 A.n A.S m a with
 | some x=>exact .inr ⟨x,A,sp,by unfold cZ;rw[ht],ht,.inl ⟨rfl,rfl⟩⟩
 | none=>
  cases hg:Ux A sp (QP (max m a))with
  | none=>
   refine .inl ⟨by unfold cZ;rw[ht,hg],rfl,?_⟩;unfold Ux at hg;split at hg
   ·assumption
   ·cases hg
  | some r=>
   obtain⟨A1,sp1⟩:=r;obtain⟨s,w,g⟩:=SJ h.pg hw.l (λp b=>Classical.byContradiction λy=>hw.own p y b) (Av _) hg;have d:Y9 A1.n A1.S m a≠none:=by
    have B:=MY (m:=max m a) O;obtain⟨_,_,⟨i,z⟩,_⟩:=UA (by have:=Av (max m a);omega) w;have key:∃j,QP (max m a)=2^j:=by
     rcases Av (max m a)with e|e|e
     ·exact⟨4,e⟩
     ·exact⟨5,e⟩
     ·exact⟨6,e⟩
    obtain⟨j,C⟩:=key;refine RW g.pg.jm g.pg.n2 (j:=j) (q:=i) (Ys.2 λp b=>?_) O O;rw[g.pg.fr];rw[Z3,←C,←z]at b;rw[(g.i p b.1 b.2).1];omega
   obtain⟨x,u⟩:=Option.ne_none_iff_exists'.1 d;exact .inr ⟨x,A1,sp1,by unfold cZ;rw[ht,hg];simp only;rw[u],u,.inr ⟨rfl,s,w,g⟩⟩
theorem Fe (h:PG A){m a x:Nat}(hx:Y9 A.n A.S m a=some x):∀p,x<=p->p<x+m->A.S p=true:=λp d b=>(kZ h.jm hx).2 p d b
theorem Py (h:PG A){m a x:Nat}(h1:1<=m)(h4:m<=4)(hx:Y9 A.n A.S m a=some x):x/16=(x+m-1)/16:=by
 obtain⟨j,_,b,_,d,_⟩:=VT hx;obtain⟨q,rfl,g⟩:=(QG h.jm).1 (List.mem_of_head? d)
 match j,b with
 | 0,b=>
  have:m=1:=by omega
  subst this;rfl
 | 1,b=>
  have:m<=2:=by omega
  simp only[Nat.pow_one]at *;omega
 | j+2,b=>
  have e:2^(j+2)=4*2^j:=by rw[Nat.pow_add];omega
  rw[e,←vv,Nat.mul_comm q 4,vv];generalize q*2^j=z;omega
theorem Ee (h:PG A){a m no:Nat}(h1:1<=m)(hn:no≠0)(hS:∀p,a<=p->p<a+m->A.S p=true):Kp A (dN A a m no):=by
 obtain⟨o,g,e,d⟩:=B0 h h1 hn hS;refine⟨rfl,rfl,rfl,d,λp b=>?_⟩;by_cases hin:a<=p/\p<a+m
 ·rw[(g p hin.1 hin.2).1]at b;omega
 ·rw[o.f p hin]at b;exact b
theorem GA.qF (h:GA A)(hk:Cl A k c ss){x:Nat}(hS:∀p,x<=p->p<x+c.aF->A.S p=true)(h1:x/16=(x+c.aF-1)/16) :
 GA {dN A x c.aF (k+1)with cD:=(dN A x c.aF (k+1)).cD.set k (ik c ss x)}/\(∀s∈ss,s.st+c.aF<=x\/x+c.aF<=s.st):=by
 have u:=h.cD k c ss hk;have r:=u.pg;have B:=hk.lt;have E:=h.tb;obtain⟨o,i,pg,F⟩:=B0 h.pg r (no:=k+1) O hS;have m:∀p,x<=p->p<x+c.aF->A.ow p=0:=λp C D=>by
  have z:=(h.pg.fr p).1 (hS p C D);apply Classical.byContradiction;intro hne;have:=(h.pg.us p).2 hne;omega
 have hd:∀s∈ss,s.st+c.aF<=x\/x+c.aF<=s.st:=λs b=>by
  apply Classical.byContradiction;intro hn;have z:=m (max x s.st) O O;have:=(h.used hk b (p:=max x s.st) O O).2;omega
 refine⟨?_,hd⟩;have e:Cl (dN A x c.aF (k+1)) k c ss:=hk;refine⟨pg.same rfl rfl rfl rfl,h.tb,by show(A.cD.set k _).length=_;simp[h.lc];rfl,h.lt,λj d g a=>?_,λj d g a s b=>?_,λj d g a p=>?_,λp=>?_,λp=>?_,h.gP,h.kr,h.pA,λj d g t a w=>?_,h.pa⟩
 ·rcases Ub e a with⟨rfl,rfl,rfl⟩|⟨hne,a⟩
  ·exact C7 u hd
  ·exact h.cD j d g a
 ·rcases Ub e a with⟨rfl,rfl,rfl⟩|⟨hne,a⟩
  ·rcases Vh.1 b with rfl|b
   ·exact h1
   ·exact h.one _ _ _ hk s b
  ·exact h.one j d g a s b
 ·show(dN A x c.aF (k+1)).ow p=j+1↔_;by_cases hp:x<=p/\p<x+c.aF
  ·rw[(i p hp.1 hp.2).2];rcases Ub e a with⟨rfl,rfl,rfl⟩|⟨hne,a⟩
   ·exact⟨λ_=>⟨_,Vh.2 (.inl rfl),hp.1,hp.2⟩,λ_=>rfl⟩
   ·rw[←h.ow j d g a p,m p hp.1 hp.2];omega
  ·rw[o.ow p hp];rcases Ub e a with⟨rfl,rfl,rfl⟩|⟨hne,a⟩
   ·rw[h.ow _ _ _ hk p];constructor
    ·rintro⟨s,b,h3⟩;exact⟨s,Vh.2 (.inr b),h3⟩
    ·rintro⟨s,b,h3⟩;rcases Vh.1 b with rfl|b
     ·exact(hp h3).elim
     ·exact⟨s,b,h3⟩
   ·exact h.ow j d g a p
 ·show(dN A x c.aF (k+1)).ow p=41↔mn A.runs p;by_cases hp:x<=p/\p<x+c.aF
  ·rw[(i p hp.1 hp.2).2,←h.jM,m p hp.1 hp.2];omega
  ·rw[o.ow p hp];exact h.jM p
 ·show(dN A x c.aF (k+1)).ow p=41\/(dN A x c.aF (k+1)).ow p<=A.tb.length;by_cases hp:x<=p/\p<x+c.aF
  ·rw[(i p hp.1 hp.2).2];omega
  ·rw[o.ow p hp];exact h.rO p
 ·rcases Ub e a with⟨rfl,rfl,rfl⟩|⟨hne,a⟩
  ·intro y hy;exact(Cr u hd).2 (h.l3 _ _ _ t hk w y hy)
  ·exact h.l3 j d g t a w
theorem GA.sJ (h:GA A){x m:Nat}(hm:1<=m)(hS:∀p,x<=p->p<x+m->A.S p=true):GA {dN A x m 41 with runs:=A.runs++[(x,m)]}:=by
 have z:=h.tb;obtain⟨o,e,pg,B⟩:=B0 h.pg hm (no:=41) O hS;have i:∀p,x<=p->p<x+m->A.ow p=0:=λp y u=>by
  have w:=(h.pg.fr p).1 (hS p y u);apply Classical.byContradiction;intro hne;have:=(h.pg.us p).2 hne;omega
 refine⟨pg.same rfl rfl rfl rfl,h.tb,h.lc,h.lt,h.cD,h.one,λj d tt b p=>?_,λp=>?_,λp=>?_,λr a=>?_,?_,h.pA,h.l3,h.pa⟩
 ·have b:Cl A j d tt:=b;have:=b.lt;show(dN A x m 41).ow p=j+1↔_;by_cases hp:x<=p/\p<x+m
  ·rw[(e p hp.1 hp.2).2,←h.ow j d tt b p,i p hp.1 hp.2];omega
  ·rw[o.ow p hp];exact h.ow j d tt b p
 ·show(dN A x m 41).ow p=41↔mn (A.runs++[(x,m)]) p;by_cases hp:x<=p/\p<x+m
  ·rw[(e p hp.1 hp.2).2];exact⟨λ_=>⟨(x,m),by simp,hp⟩,λ_=>rfl⟩
  ·rw[o.ow p hp,h.jM];constructor
   ·rintro⟨r,a,h3⟩;exact⟨r,by simp[a],h3⟩
   ·rintro⟨r,a,h3⟩;rcases zL.1 a with a|a
    ·exact⟨r,a,h3⟩
    ·simp only[zN]at a;subst a;exact(hp h3).elim
 ·show(dN A x m 41).ow p=41\/(dN A x m 41).ow p<=A.tb.length;by_cases hp:x<=p/\p<x+m
  ·rw[(e p hp.1 hp.2).2];omega
  ·rw[o.ow p hp];exact h.rO p
 ·rcases zL.1 a with a|a
  ·exact h.gP r a
  ·simp only[zN]at a;subst a;exact hm
 ·refine pK.2 ⟨h.kr,by simp,λr a s g=>?_⟩;simp only[zN]at g;subst g;apply Classical.byContradiction;intro hn;simp only at hn;have:=h.gP r a;have w:=i (max x r.1) O O;have:=(h.jv a (p:=max x r.1) O O).2;omega
theorem Ln {l:List (Nat×Nat)}{x m:Nat}(h:∀r∈l,r.1≠x):cA.mset2 l x m=l++[(x,m)]:=by
 unfold cA.mset2;rw[zB];simp only[kC,zT,not_exists,not_and];exact h
theorem EY (h:GA A)(hw:Ow A sp)(k:Int) :
 ((cL A sp k=(A,sp))/\KC A sp k≠0/\(A.ck k=true->KC A sp k=6)) ∨
 ∃(j:Nat) (c:bZ) (ss:List cF) (x:Nat) (A1:AR) (sp1:Sp),k=j/\Cl A j c ss/\Cl A1 j c ss/\KC A sp k=0/\cL A sp k=({dN A1 x c.aF (j+1)with cD:=(dN A1 x c.aF (j+1)).cD.set j (ik c ss x)},sp1) ∧
  St A A1 sp sp1/\A1.runs=A.runs/\A1.cM=A.cM/\A1.cD=A.cD/\Y9 A1.n A1.S c.aF 1=some x/\(∀s∈ss,s.st+c.aF<=x\/x+c.aF<=s.st)/\St A (cL A sp k).1 sp (cL A sp k).2:=by
 by_cases hck:A.ck k=true
 ·obtain⟨j,rfl,C⟩:=U0.1 hck;obtain⟨c,ss,t,b,H⟩:=h.cl C;have D:=h.cD j c ss b;have y:=D.ok;unfold bZ.ok at y;have E:=b.lt;rcases ES h hw (m:=c.aF) (a:=1) (no:=j+1) O O O with⟨hg,_⟩|⟨x,A1,sp1,hg,htk,hor⟩
  ·left;have w:KC A sp (j:Int)=6:=by unfold KC;rw[hck,zC rfl,dE,b.1,b.2];simp only;rw[hg]
   have F:cL A sp (j:Int)=(A,sp):=by unfold cL;rw[hck,zC rfl,dE,b.1,b.2];simp only;rw[hg]
   rw[F,w];exact⟨rfl,by simp,λ_=>rfl⟩
  ·right;have w:KC A sp (j:Int)=H4 c ss x:=by unfold KC;rw[hck,zC rfl,dE,b.1,b.2];simp only;rw[hg]
   have u:GA A1:=by
    rcases hor with⟨rfl,rfl⟩|⟨_,s,_,g⟩
    ·exact h
    ·exact h.grown g
   have d:St A A1 sp sp1:=by
    rcases hor with⟨rfl,rfl⟩|⟨_,s,_,g⟩
    ·exact St.refl h hw
    ·exact g.st h hw
   have e:A1.runs=A.runs/\A1.cM=A.cM/\A1.cD=A.cD:=by
    rcases hor with⟨rfl,rfl⟩|⟨_,s,_,g⟩
    ·exact⟨rfl,rfl,rfl⟩
    ·exact⟨g.runs,g.cM,g.cD⟩
   have i:Cl A1 j c ss:=⟨by rw[d.tb];exact b.1,by rw[e.2.2];exact b.2⟩;have z:=Fe u.pg htk;obtain⟨G,hd⟩:=u.qF i z (Py u.pg O O htk);have B:=PD hd;have r:cL A sp (j:Int)=({dN A1 x c.aF (j+1)with cD:=(dN A1 x c.aF (j+1)).cD.set j (ik c ss x)},sp1):=by
    unfold cL;rw[hck,zC rfl,dE,b.1,b.2];simp only;rw[hg];simp only;rw[zC B]
   refine⟨j,c,ss,x,A1,sp1,rfl,b,i,by rw[w];exact B,r,d,e.1,e.2.1,e.2.2,htk,hd,?_⟩;rw[r];have kp:=Ee u.pg (no:=j+1) O O z;exact d.trans (St.kp G d.ow (kp.trans (Kp.aF rfl rfl rfl rfl)))
 ·left;have p:A.ck k=false:=by simpa using hck
  unfold cL KC;rw[p];exact⟨rfl,by simp,λh=>by cases h⟩
theorem I6 (h:GA A)(hw:Ow A sp)(k:Int):St A (cL A sp k).1 sp (cL A sp k).2/\(cL A sp k).1.runs=A.runs/\(cL A sp k).1.cM=A.cM/\(∀j y,fN (cL A sp k).1 j y↔fN A j y)/\(KC A sp k≠0->cL A sp k=(A,sp)):=by
 rcases EY h hw k with⟨e,_⟩|⟨j,c,ss,x,A1,sp1,rfl,hk,hk1,hE,e,hst,r1,r2,r3,_,hd,hS⟩
 ·rw[e];exact⟨St.refl h hw,rfl,rfl,λ_ _=>Iff.rfl,λ_=>rfl⟩
 ·refine⟨hS,by rw[e];exact r1,by rw[e];exact r2,λi y=>?_,λd=>(d hE).elim⟩;rw[e];have b:Cl (dN A1 x c.aF (j+1)) j c ss:=hk1;rw[yz b,Cr (h.cD j c ss hk) hd];have e2:fN (dN A1 x c.aF (j+1)) i y↔fN A i y:=by
   have:(dN A1 x c.aF (j+1)).tb=A.tb/\(dN A1 x c.aF (j+1)).cD=A.cD:=⟨hst.tb,r3⟩;unfold fN Cl;rw[this.1,this.2]
  rw[e2];by_cases hij:i=j
  ·subst hij;rw[KX hk];exact⟨λa=>by rcases a with⟨_,a⟩|⟨a,_⟩;exact a;exact(a rfl).elim,λa=>.inl ⟨rfl,a⟩⟩
  ·exact⟨λa=>by rcases a with⟨a,_⟩|⟨_,a⟩;exact(hij a).elim;exact a,λa=>.inr ⟨hij,a⟩⟩
theorem Is {m a:Int}(h:Q5 m a=true):∃x y:Nat,m=x/\a=y/\1<=x/\x<=64/\(y=1\/y=2\/y=4\/y=8\/y=16):=by
 unfold Q5 at h;simp only[zF,zU,nm,zT]at h;exact⟨m.toNat,a.toNat,O,O,O,O,O⟩
theorem IA (h:GA A)(hw:Ow A sp)(m a:Int) :
 (cA A sp m a=(A,sp)/\Qi A sp m a≠0/\(Q5 m a=true->Qi A sp m a=6/\Y9 A.n A.S m.toNat a.toNat=none/\cY sp (QP (max m.toNat a.toNat))=none)) ∨
 ∃(x:Nat) (A1:AR) (sp1:Sp),Q5 m a=true/\Qi A sp m a=0/\ZW A sp m a=x/\cA A sp m a=({dN A1 x m.toNat 41 with runs:=A.runs++[(x,m.toNat)]},sp1) ∧
  Y9 A1.n A1.S m.toNat a.toNat=some x/\(A1=A/\sp1=sp\/Y9 A.n A.S m.toNat a.toNat=none/\∃s,cY sp (QP (max m.toNat a.toNat))=some s/\Grown A A1 sp sp1 s (QP (max m.toNat a.toNat))) ∧
  St A (cA A sp m a).1 sp (cA A sp m a).2/\(cA A sp m a).1.cM=A.cM/\(∀j y,fN (cA A sp m a).1 j y↔fN A j y):=by
 by_cases hp:Q5 m a=true
 ·obtain⟨b,w,rfl,rfl,K,J,Q⟩:=Is hp;have F:Qi A sp (b:Int) (w:Int)=if(cZ A sp b w 41).1.isSome then 0 else 6:=by unfold Qi;rw[zC hp,dE,dE]
  have H:ZW A sp (b:Int) (w:Int)=(cZ A sp b w 41).1.getD 0:=by unfold ZW;rw[zC hp,dE,dE]
  rcases ES h hw (m:=b) (a:=w) (no:=41) K J O with⟨hg,hn1,hn2⟩|⟨x,A1,sp1,hg,htk,hor⟩
  ·left;have M:cA A sp (b:Int) (w:Int)=(A,sp):=by unfold cA;rw[zC hp,dE,dE,hg]
   rw[M,F,hg,dE,dE];exact⟨rfl,by simp,λ_=>⟨rfl,hn1,hn2⟩⟩
  ·right;have z:GA A1:=by
    rcases hor with⟨rfl,rfl⟩|⟨_,s,_,g⟩
    ·exact h
    ·exact h.grown g
   have u:St A A1 sp sp1:=by
    rcases hor with⟨rfl,rfl⟩|⟨_,s,_,g⟩
    ·exact St.refl h hw
    ·exact g.st h hw
   have d:A1.runs=A.runs/\A1.cM=A.cM/\A1.cD=A.cD:=by
    rcases hor with⟨rfl,rfl⟩|⟨_,s,_,g⟩
    ·exact⟨rfl,rfl,rfl⟩
    ·exact⟨g.runs,g.cM,g.cD⟩
   have D:=Fe z.pg htk;have C:∀r∈A.runs,r.1≠x:=λr N e=>by
    have B:r∈A1.runs:=by rw[d.1];exact N
    have:=z.gP r B;have P:=(z.jv B (p:=x) O O).1;have R:=(z.pg.fr x).1 (D x O O);omega
   have i:cA A sp (b:Int) (w:Int)=({dN A1 x b 41 with runs:=A.runs++[(x,b)]},sp1):=by
    unfold cA;rw[zC hp,dE,dE,hg];show({dN A1 x b 41 with runs:=cA.mset2 A1.runs x b},sp1)=_;rw[d.1,Ln C]
   have G:=z.sJ O D;rw[d.1]at G;have kp:=Ee z.pg (no:=41) O O D;refine⟨x,A1,sp1,hp,by rw[F,hg];rfl,by rw[H,hg];rfl,by rw[dE];exact i,by rw[dE,dE];exact htk,by rw[dE,dE];exact hor,?_,by rw[i];exact d.2.1,λj y=>?_⟩
   ·rw[i];exact u.trans (St.kp G u.ow (kp.trans (Kp.aF rfl rfl rfl rfl)))
   ·rw[i];have e1:({dN A1 x b 41 with runs:=A.runs++[(x,b)]}:AR).tb=A.tb:=u.tb;have e2:({dN A1 x b 41 with runs:=A.runs++[(x,b)]}:AR).cD=A.cD:=d.2.2;unfold fN Cl;rw[e1,e2]
 ·left;have E:Q5 m a=false:=by simpa using hp
  unfold cA Qi;rw[E];exact⟨rfl,by simp,λL=>by cases L⟩
theorem IY {x:Int}{r:Nat×Nat}(h:pL A x=some r):r∈A.runs/\x=(r.1:Int):=by
 unfold pL at h;exact⟨sj h,by have:=tx h;simpa using Eq.symm (by simpa using this)⟩
theorem Jm (h:GA A)(x:Int):(Kp A (Qr A x)/\GA (Qr A x))/\(Qr A x).cM=A.cM/\(∀j y,fN (Qr A x) j y↔fN A j y)/\(KH A x≠0->Qr A x=A) ∧
 (KH A x=0->∃r∈A.runs,x=(r.1:Int)/\(Qr A x).runs=A.runs.filter λq=>!(q==r)):=by
 cases hr:pL A x with
 | none=>
  have e:Qr A x=A:=by unfold Qr;rw[hr]
  have E:KH A x=8:=by unfold KH;rw[hr];rfl
  rw[e,E];exact⟨⟨Kp.refl A,h⟩,rfl,λ_ _=>Iff.rfl,λ_=>rfl,λi=>by cases i⟩
 | some r=>
  obtain⟨b,i⟩:=IY hr;have w:=h.gP r b;have z:A.runs.filter (λq=>!((q.1:Int)==x))=A.runs.filter λq=>!(q==r):=by
   apply vO;intro q g;have:((q.1:Int)==x)=(q==r):=by
    rw[lZ];simp only[zT];constructor
    ·intro e;have H:=h.gP q g;exact h.gK g b (x:=q.1) O O O O
    ·rintro rfl;exact i.symm
   rw[this]
  have e:Qr A x=VU {A with runs:=A.runs.filter λq=>!(q==r)} r:=by unfold Qr;rw[hr];simp only;rw[z]
  have E:KH A x=0:=by unfold KH;rw[hr];rfl
  obtain⟨a,m⟩:=r;obtain⟨o,B,pg,G⟩:=F0 (A:={A with runs:=A.runs.filter λq=>!(q==(a,m))}) (h.pg.same rfl rfl rfl rfl) w (λp C F=>(h.jv b C F).1);have own:∀p,a<=p->p<a+m->A.ow p=41:=λp C F=>(h.jv b C F).2;have J:=h.tb;rw[e,E];refine⟨⟨⟨rfl,rfl,rfl,G,λp D=>?_⟩,?_⟩,rfl,λ_ _=>Iff.rfl,λi=>(i rfl).elim,λ_=>⟨_,b,i,rfl⟩⟩
  ·by_cases hin:a<=p/\p<a+m
   ·rw[(B p hin.1 hin.2).1]at D;omega
   ·rw[o.f p hin]at D;exact D
  ·refine⟨pg,h.tb,h.lc,h.lt,h.cD,h.one,λj d tt s p=>?_,λp=>?_,λp=>?_,λq g=>h.gP q (zI.1 g).1,h.kr.filter _,h.pA,h.l3,h.pa⟩
   ·have s:Cl A j d tt:=s;have:=s.lt;by_cases hin:a<=p/\p<a+m
    ·rw[(B p hin.1 hin.2).2,←h.ow j d tt s p,own p hin.1 hin.2];omega
    ·rw[o.ow p hin];exact h.ow j d tt s p
   ·show _↔mn (A.runs.filter λq=>!(q==(a,m))) p;by_cases hin:a<=p/\p<a+m
    ·rw[(B p hin.1 hin.2).2];constructor
     ·intro i;omega
     ·rintro⟨q,g,q1,q2⟩;have u:=zI.1 g;have:=h.gK u.1 b q1 q2 hin.1 hin.2;subst this;simp at u
    ·rw[o.ow p hin];show A.ow p=41↔_;rw[h.jM];constructor
     ·rintro⟨q,g,q1⟩;refine⟨q,zI.2 ⟨g,?_⟩,q1⟩;have:q≠(a,m):=by rintro rfl;exact hin q1
      simpa using this
     ·rintro⟨q,g,q1⟩;exact⟨q,(zI.1 g).1,q1⟩
   ·by_cases hin:a<=p/\p<a+m
    ·rw[(B p hin.1 hin.2).2];omega
    ·rw[o.ow p hin];exact h.rO p
theorem B9 (k:Nat):∀(outs:List (List Int)) {A:AR},GA A->outs.flatten.Nodup->(∀x∈outs.flatten,fN A k x/\¬gW A k x) →
 Ob A (outs.foldl (λA' xs=>Zu A' (k:Int) xs) A)/\(outs.foldl (λA' xs=>Zu A' (k:Int) xs) A).cM=A.cM/\∀j y,fN (outs.foldl (λA' xs=>Zu A' (k:Int) xs) A) j y↔fN A j y/\¬(j=k/\y∈outs.flatten)
 | [],A,h,_,_=>⟨⟨h,Kp.refl A,rfl⟩,rfl,by simp⟩
 | xs::outs,A,h,hn,ht=>by
  rw[wu]at hn ht;have hn':=nE.1 hn;have p:∀x∈xs,fN A k x/\¬gW A k x:=λx i=>ht x (kv _ i);rw[qM];cases xs with
  | nil=>
   have s:Zu A (k:Int) []=A\/QJ A (k:Int) []=0:=by
    by_cases w:QJ A (k:Int) []=0
    ·exact .inr w
    ·exact .inl (by unfold Zu;rw[zB w])
   obtain⟨o,e,t,_⟩:=A9 h (k:=(k:Int)) (xs:=[]) (λ_=>by simp);have u:∀j y,fN (Zu A (k:Int) []) j y↔fN A j y:=λj y=>by
    rcases s with s|s
    ·rw[s]
    ·rw[t s];simp
   have m:∀j y,gW (Zu A (k:Int) []) j y↔gW A j y:=λj y=>by unfold gW;rw[e]
   obtain⟨o2,e2,z⟩:=B9 k outs o.ga hn'.2.1 λx i=>by rw[u,m];exact ht x (nJ _ i)
   exact⟨⟨o2.ga,o.kp.trans o2.kp,o2.runs.trans o.runs⟩,e2.trans e,λj y=>by rw[z,u];simp⟩
  | cons x0 xs=>
   obtain⟨c,C,B,_⟩:=(p x0 aA).1;have w:QJ A (k:Int) (x0::xs)=0:=by
    rw[HB h B];exact CV ⟨λx i=>(KX B).1 (p x i).1,hn'.1⟩
   obtain⟨o,e,t,_⟩:=A9 h (k:=(k:Int)) (xs:=x0::xs) (λ_ x i=>by rw[dE];exact(p x i).2);have u:=t w;have m:∀j y,gW (Zu A (k:Int) (x0::xs)) j y↔gW A j y:=λj y=>by unfold gW;rw[e]
   obtain⟨o2,e2,z⟩:=B9 k outs o.ga hn'.2.1 λx i=>by
    rw[u,m];have:=ht x (nJ _ i);exact⟨⟨this.1,λg=>hn'.2.2 x g.2 x i rfl⟩,this.2⟩
   refine⟨⟨o2.ga,o.kp.trans o2.kp,o2.runs.trans o.runs⟩,e2.trans e,λj y=>?_⟩;rw[z,u,dE,wu,zL];constructor
   ·rintro⟨⟨a,b⟩,d⟩;refine⟨a,λ⟨r,g⟩=>?_⟩;rcases g with g|g
    ·exact b ⟨r,g⟩
    ·exact d ⟨r,g⟩
   ·rintro⟨a,b⟩;exact⟨⟨a,λ⟨r,g⟩=>b ⟨r,.inl g⟩⟩,λ⟨r,g⟩=>b ⟨r,.inr g⟩⟩
structure r6 (A B:AR):Prop where
 ob:Ob A B
 sub:∀j y,gW B j y->gW A j y
 tk:∀j y,fN B j y↔fN A j y/\(gW A j y->gW B j y)
theorem r6.trans {B C:AR}(h:r6 A B)(k:r6 B C):r6 A C:=
 ⟨⟨k.ob.ga,h.ob.kp.trans k.ob.kp,k.ob.runs.trans h.ob.runs⟩,λj y g=>h.sub j y (k.sub j y g),λj y=>by
  rw[k.tk,h.tk];exact⟨λ⟨⟨a,b⟩,d⟩=>⟨a,λe=>d (b e)⟩,λ⟨a,b⟩=>⟨⟨a,λe=>k.sub j y (b e)⟩,λe=>b (h.sub j y e)⟩⟩⟩
theorem LB (h:GA A)(hk:k<A.tb.length):r6 A (uh A k):=by
 obtain⟨c,H,t,D,m⟩:=h.cl hk;have r:k<A.cM.length:=by rw[h.lt];exact hk
 have e:uh A k=t.out.foldl (λA' w=>Zu A' (k:Int) w) {A with cM:=A.cM.set k t.tick}:=by unfold uh;rw[m]
 have z:t.bs=t.out++t.tick.bs:=(nG ((t.low+1)/2) t.bs).symm;have i:t.bs.flatten=t.out.flatten++t.tick.bs.flatten:=by conv=>lhs;rw[z];rw[List.flatten_append]
 have u:=h.pA k t m;rw[i]at u;have g:=nE.1 u;have p:∀x∈t.bs.flatten,fN A k x:=λx d=>(KX D).2 (h.l3 k c H t D m x d);have F:GA {A with cM:=A.cM.set k t.tick}:=h.jY g.2.1 (λx d=>p x (by rw[i];exact nJ _ d)) λG C w B=>h.pa k G t C m w (t.ot w B);obtain⟨o,e2,E⟩:=B9 k t.out F g.1 λx d=>by
  refine⟨p x (by rw[i];exact kv _ d),?_⟩;rw[xD r];rintro(⟨_,hy⟩|⟨hy,_⟩)
  ·exact g.2.2 x d x hy rfl
  ·exact hy rfl
 rw[←e]at o e2 E;have s:∀j y,gW (uh A k) j y↔(j=k/\y∈t.tick.bs.flatten)\/(j≠k/\gW A j y):=λj y=>by
  rw[←xD r];unfold gW;rw[e2]
 refine⟨⟨o.ga,(Kp.aF rfl rfl rfl rfl:Kp A {A with cM:=A.cM.set k t.tick}).trans o.kp,o.runs⟩,λj y d=>?_,λj y=>?_⟩
 ·rcases(s j y).1 d with⟨rfl,hy⟩|⟨_,hy⟩
  ·rw[Hh m,i];exact nJ _ hy
  ·exact hy
 ·rw[E,s];show fN A j y/\_↔_;by_cases hjk:j=k
  ·subst hjk;rw[Hh m,i,zL];constructor
   ·rintro⟨a,b⟩;refine⟨a,λd=>?_⟩;rcases d with d|d
    ·exact(b ⟨rfl,d⟩).elim
    ·exact .inl ⟨rfl,d⟩
   ·rintro⟨a,b⟩;refine⟨a,λ⟨_,d⟩=>?_⟩;rcases b (.inl d)with⟨_,hy⟩|⟨hy,_⟩
    ·exact g.2.2 y d y hy rfl
    ·exact hy rfl
  ·exact⟨λ⟨a,_⟩=>⟨a,λd=>.inr ⟨hjk,d⟩⟩,λ⟨a,_⟩=>⟨a,λ⟨d,_⟩=>hjk d⟩⟩
theorem C9 (h:GA A):∀m,m<=A.tb.length->r6 A ((List.range m).foldl uh A)
 | 0,_=>⟨⟨h,Kp.refl A,rfl⟩,λ_ _=>id,λ_ _=>⟨λa=>⟨a,id⟩,λa=>a.1⟩⟩
 | m+1,hm=>by
  have t:=C9 h m O;rw[pR,vM,qM,List.foldl_nil];exact t.trans (LB t.ob.ga (by rw[t.ob.kp.tb];omega))
theorem Mc (h:GA A):r6 A (rW A):=C9 h _ (by rw[h.lt];exact zD _)
end Go.Ar
namespace Go.Ar
open Go.Bu (Zc Qx Y9 pN KV dC take Q9 Kt Bounded)
variable {A:AR}{sp:Sp}{k:Nat}{c:bZ}{ss:List cF}
end Go.Ar
namespace Go.Ar
structure Pc where
 k:Nat
 cls:Int
 addr:Nat
 size:Nat
 eJ:Bool
 deriving DecidableEq
structure Wd where
 tb:List bZ
 sp:Sp
 bX:List AR
 held:List Pc
structure Act where
 kd:Int
 ar:Int
 cl:Int
 a:Int
 b:Int
 l:List Int
abbrev Key:=Nat×Int×Nat
def Pc.key (p:Pc):Key:=(p.k,p.cls,p.addr)
def lS (k:Nat)(cls x:Int)(p:Pc):Bool:=p.k==k&&(p.cls==cls&&((p.addr:Int)==x && !p.eJ))
def ug (held:List Pc)(k:Nat)(cls x:Int):Option Nat:=held.findIdx? (lS k cls x)
def jd (held:List Pc)(k:Nat)(cls:Int)(l:List Int):Bool:=l.all (λx=>(ug held k cls x).isSome)&&decide l.Nodup
def lj (k:Nat)(cls:Int)(held:List Pc)(x:Int):List Pc:=match ug held k cls x with
 | some i=>held.take i++held.drop (i+1)
 | none=>held
def uT (held:List Pc)(k:Nat)(cls:Int)(l:List Int):List Pc:=l.foldl (lj k cls) held
def dY (k:Nat)(cls:Int)(l:List Int)(p:Pc):Bool:=p.k==k&&(p.cls==cls&&l.contains (p.addr:Int))
def Ho (held:List Pc)(k:Nat)(cls:Int)(l:List Int)(m:Bool):List Pc:=held.map λp=>if dY k cls l p then{p with eJ:=m}else p
def xu (us:List AR)(held:List Pc):List Pc:=held.filter λp=>!p.eJ||(match us[p.k]? with
 | some A=>vE A (p.addr:Int)
 | none=>false)
def oh (tb:List bZ)(k:Int):Nat:=((tb[k.toNat]?).map (·.size)).getD 0
def Wd.put (W:Wd)(k:Nat)(A:AR)(sp:Sp)(held:List Pc):Wd:={W with sp:=sp,bX:=W.bX.set k A,held:=held}
def Hd (A:AR)(p:Pc):Prop:=(p.cls = -1/\p.eJ=false/\∃r∈A.runs,p.addr=r.1*256/\p.size=r.2*256) ∨
 ∃(j:Nat) (c:bZ),p.cls=j/\A.tb[j]?=some c/\p.size=c.size/\fN A j (p.addr:Int)/\(p.eJ=true↔gW A j (p.addr:Int))
structure WI (W:Wd):Prop where
 ga:∀(k:Nat) (A:AR),W.bX[k]?=some A->GA A
 ow:∀(k:Nat) (A:AR),W.bX[k]?=some A->Ow A W.sp
 tb:∀(k:Nat) (A:AR),W.bX[k]?=some A->A.tb=W.tb
 low:∀(k:Nat) (A:AR),W.bX[k]?=some A->∀p,p<16->A.f p=0
 own:∀p,gf W.sp.st p≠0->∃(k:Nat) (A:AR),W.bX[k]?=some A/\A.f p≠0
 one:∀p (k l:Nat) (A B:AR),W.bX[k]?=some A->W.bX[l]?=some B->A.f p≠0->B.f p≠0->k=l
 hk:(W.held.map Pc.key).Nodup
 hf:∀p∈W.held,∃A,W.bX[p.k]?=some A/\Hd A p
 ht:∀(k:Nat) (A:AR),W.bX[k]?=some A->∀(j:Nat) (y:Int),fN A j y->∃p∈W.held,p.k=k/\p.cls=j/\(p.addr:Int)=y
 hr:∀(k:Nat) (A:AR),W.bX[k]?=some A->∀r∈A.runs,∃p∈W.held,p.k=k/\p.cls = -1/\p.addr=r.1*256
variable {W:Wd}{k:Nat}{A:AR}
theorem KW {α:Type}{l:List α}{k j:Nat}{x y:α}(h:(l.set k x)[j]?=some y):(j=k/\y=x/\k<l.length)\/(j≠k/\l[j]?=some y):=by
 by_cases hjk:j=k
 ·subst hjk;have a:j<l.length:=by have:=(cV.1 h).1;simpa using this
  rw[zM a]at h;exact .inl ⟨rfl,(Option.some.inj h).symm,a⟩
 ·rw[zk (Ne.symm hjk)]at h;exact .inr ⟨hjk,h⟩
theorem WI.unique (h:WI W){p q:Pc}(hp:p∈W.held)(hq:q∈W.held)(e:p.key=q.key):p=q:=by
 obtain⟨i,g⟩:=zQ hp;obtain⟨j,d⟩:=zQ hq;obtain⟨a,rfl⟩:=cV.1 g;obtain⟨b,rfl⟩:=cV.1 d;have:=l0.1 h.hk;rcases pE i j with hl|hl|hl
 ·exact(this i j (by simpa using a) (by simpa using b) hl (by simpa using e)).elim
 ·subst hl;rfl
 ·exact(this j i (by simpa using b) (by simpa using a) hl (by simpa using e.symm)).elim
theorem WI.step (h:WI W)(hk:W.bX[k]?=some A){B:AR}{sp':Sp}{held':List Pc}(s:St A B W.sp sp')(h1:(held'.map Pc.key).Nodup)(h2:∀p∈held',p.k=k->Hd B p)(h3:∀p,p.k≠k->(p∈held'↔p∈W.held))
 (h4:∀(j:Nat) (y:Int),fN B j y->∃p∈held',p.k=k/\p.cls=j/\(p.addr:Int)=y) (h5:∀r∈B.runs,∃p∈held',p.k=k/\p.cls = -1/\p.addr=r.1*256):WI (W.put k B sp' held'):=by
 have z:=(cV.1 hk).1;have m:(W.bX.set k B)[k]?=some B:=zM z;have J:∀{j:Nat} {C:AR},j≠k->W.bX[j]?=some C->(W.bX.set k B)[j]?=some C:=λa e=>(zk (Ne.symm a)).trans e;have g:∀{j:Nat} {C:AR},j≠k->W.bX[j]?=some C->∀p,C.f p≠0->A.f p=0/\B.f p=0/\gf sp'.st p=gf W.sp.st p:=by
  intro j C a e p b;have u:A.f p=0:=Classical.byContradiction λx=>a (h.one p j k C A e hk b x);have w:B.f p=0:=Classical.byContradiction λx=>by
   have:=(s.new p u x).1;exact(h.ow j C e).own p b this
  exact⟨u,w,s.same p u w⟩
 refine⟨λj C a=>?_,λj C a=>?_,λj C a=>?_,λj C a p b=>?_,λp b=>?_,λp j l C D a H e E=>?_,h1,λp b=>?_,λj C a i y G=>?_,λj C a r hr=>?_⟩
 ·rcases KW a with⟨rfl,rfl,_⟩|⟨_,a⟩
  ·exact s.ga
  ·exact h.ga j C a
 ·rcases KW a with⟨rfl,rfl,_⟩|⟨d,a⟩
  ·exact s.ow
  ·have o:=h.ow j C a;have K:=h.ow k A hk;refine⟨?_,λp b=>?_,λp b=>?_,s.ow.le⟩
   ·show sp'.st.length=C.n;rw[s.ow.l,s.n,←K.l,o.l]
   ·show gf sp'.st p≠0;rw[(g d a p b).2.2];exact o.own p b
   ·show gf sp'.st p=1;rw[(g d a p O).2.2];exact o.cl p b
 ·rcases KW a with⟨rfl,rfl,_⟩|⟨_,a⟩
  ·exact s.tb.trans (h.tb _ A hk)
  ·exact h.tb j C a
 ·rcases KW a with⟨rfl,rfl,_⟩|⟨_,a⟩
  ·apply Classical.byContradiction;intro x;have:=s.new p (h.low _ A hk p b) x;omega
  ·exact h.low j C a p b
 ·have b:gf sp'.st p≠0:=b;by_cases w:B.f p=0
  ·by_cases u:A.f p=0
   ·rw[s.same p u w]at b;obtain⟨j,C,a,e⟩:=h.own p b;have d:j≠k:=by
     rintro rfl;rw[hk]at a;cases a;exact e u
    exact⟨j,C,J d a,e⟩
   ·exact(b (s.gone p u w)).elim
  ·exact⟨k,B,m,w⟩
 ·rcases KW a with⟨rfl,rfl,_⟩|⟨d,hj'⟩
  ·rcases KW H with⟨rfl,rfl,_⟩|⟨hne2,hl'⟩
   ·rfl
   ·exact(e (g hne2 hl' p E).2.1).elim
  ·rcases KW H with⟨rfl,rfl,_⟩|⟨hne2,hl'⟩
   ·exact(E (g d hj' p e).2.1).elim
   ·exact h.one p j l C D hj' hl' e E
 ·by_cases hpk:p.k=k
  ·exact⟨B,by rw[hpk];exact m,h2 p b hpk⟩
  ·obtain⟨C,e,L⟩:=h.hf p ((h3 p hpk).1 b);exact⟨C,J hpk e,L⟩
 ·rcases KW a with⟨rfl,rfl,_⟩|⟨d,a⟩
  ·exact h4 i y G
  ·obtain⟨p,b,e1,e2,F⟩:=h.ht j C a i y G;exact⟨p,(h3 p (by rw[e1];exact d)).2 b,e1,e2,F⟩
 ·rcases KW a with⟨rfl,rfl,_⟩|⟨d,a⟩
  ·exact h5 r hr
  ·obtain⟨p,b,e1,e2,F⟩:=h.hr j C a r hr;exact⟨p,(h3 p (by rw[e1];exact d)).2 b,e1,e2,F⟩
theorem Hd.to {B:AR}{p:Pc}(h:Hd A p)(e1:B.tb=A.tb)(e2:B.runs=A.runs)(e3:∀j y,fN A j y->fN B j y)(e4:∀j y,gW B j y↔gW A j y):Hd B p:=by
 rcases h with⟨h1,h2,r,hr,h3⟩|⟨j,c,h1,h2,h3,h4,h5⟩
 ·exact .inl ⟨h1,h2,r,by rw[e2];exact hr,h3⟩
 ·exact .inr ⟨j,c,h1,by rw[e1];exact h2,h3,e3 _ _ h4,by rw[e4];exact h5⟩
theorem WI.hd (h:WI W)(hk:W.bX[k]?=some A){p:Pc}(hp:p∈W.held)(e:p.k=k):Hd A p:=by
 obtain⟨C,a,b⟩:=h.hf p hp;rw[e,hk]at a;cases a;exact b
theorem WI.ly (h:WI W)(hk:W.bX[k]?=some A){B:AR}{sp':Sp}(s:St A B W.sp sp')(e2:B.runs=A.runs)(e3:∀j y,fN B j y↔fN A j y)(e4:B.cM=A.cM):WI (W.put k B sp' W.held):=
 h.step hk s h.hk (λp a e=>(h.hd hk a e).to s.tb e2 (λj y=>(e3 j y).2) λj y=>by unfold gW;rw[e4]) (λ_ _=>Iff.rfl) (λj y b=>h.ht k A hk j y ((e3 j y).1 b)) λr hr=>h.hr k A hk r (by rw[←e2];exact hr)
theorem WI.cls (h:WI W){p:Pc}(hp:p∈W.held){j:Nat}(e:p.cls=j)(hk:W.bX[p.k]?=some A):∃c,A.tb[j]?=some c/\p.size=c.size/\fN A j (p.addr:Int)/\(p.eJ=true↔gW A j (p.addr:Int)):=by
 rcases h.hd hk hp rfl with⟨h1,_⟩|⟨i,c,h1,h2,h3,h4,h5⟩
 ·omega
 ·obtain rfl:i=j:=by omega
  exact⟨c,h2,h3,h4,h5⟩
theorem WI.run (h:WI W){p:Pc}(hp:p∈W.held)(e:p.cls = -1)(hk:W.bX[p.k]?=some A):p.eJ=false/\∃r∈A.runs,p.addr=r.1*256/\p.size=r.2*256:=by
 rcases h.hd hk hp rfl with⟨_,h2⟩|⟨i,c,h1,_⟩
 ·exact h2
 ·omega
theorem Ks {k:Nat}{cls x:Int}{p:Pc}:lS k cls x p=true↔p.k=k/\p.cls=cls/\(p.addr:Int)=x/\p.eJ=false:=by
 simp[lS]
theorem ZU {k:Nat}{cls:Int}{l:List Int}{p:Pc}:dY k cls l p=true↔p.k=k/\p.cls=cls/\(p.addr:Int)∈l:=by
 simp[dY]
theorem Ig {held:List Pc}{k:Nat}{cls x:Int}{i:Nat}(h:ug held k cls x=some i):∃p,held[i]?=some p/\lS k cls x p=true:=by
 obtain⟨a,b,_⟩:=m7.1 h;exact⟨held[i],cU a,b⟩
theorem RM {held:List Pc}{k:Nat}{cls x:Int}{p:Pc}(hp:p∈held)(h:lS k cls x p=true):(ug held k cls x).isSome=true:=by
 unfold ug;rw[List.findIdx?_isSome,kC];exact⟨p,hp,h⟩
theorem Kv {held:List Pc}{k:Nat}{cls:Int}{l:List Int}:jd held k cls l=true↔(∀x∈l,∃p∈held,lS k cls x p=true)/\l.Nodup:=by
 unfold jd;rw[zF,j6,zU];refine and_congr_left λ_=>forall_congr' λx=>imp_congr_right λa=>?_;unfold ug;rw[List.findIdx?_isSome,kC]
theorem Ik {held:List Pc}(hn:(held.map Pc.key).Nodup){i:Nat}{p:Pc}(hi:held[i]?=some p):held.take i++held.drop (i+1)=held.filter λq=>!(q.key==p.key):=by
 induction held generalizing i with
 | nil=>simp at hi
 | cons q l ih=>
  rw[zS,zr]at hn;cases i with
  | zero=>
   simp only[xT,Option.some.injEq]at hi;subst hi;have:l.filter (λr=>!(r.key==q.key))=l:=by
    rw[pB];intro r hr;have:r.key≠q.key:=λe=>hn.1 (zE.2 ⟨r,hr,e⟩);simpa using this
   simp[this]
  | succ i=>
   have hi:l[i]?=some p:=by simpa using hi
   have a:q.key≠p.key:=λe=>hn.1 (zE.2 ⟨p,zG hi,e.symm⟩);rw[ue,xL,lf,ih hn.2 hi,sI];have:(!(q.key==p.key))=true:=by simpa using a
   rw[this];rfl
theorem VN {held:List Pc}(hn:(held.map Pc.key).Nodup)(f:Pc->Bool):((held.filter f).map Pc.key).Nodup:=hn.sublist (List.filter_sublist.map _)
theorem DC {k:Nat}{cls:Int}:∀(l:List Int) {held:List Pc},(held.map Pc.key).Nodup->(∀x∈l,∃p∈held,lS k cls x p=true)->l.Nodup->uT held k cls l=held.filter λp=>!dY k cls l p
 | [],held,_,_,_=>by
  have:∀p,dY k cls [] p=false:=λp=>by simp[dY]
  exact(pB.2 λp _=>by rw[this];rfl).symm
 | x::l,held,hn,ho,hl=>by
  obtain⟨p,B,C⟩:=ho x aA;obtain⟨i,m⟩:=pM.1 (RM B C);obtain⟨q,A,j⟩:=Ig m;have d:=zr.1 hl;have e1:lj k cls held x=held.filter λr=>!(r.key==q.key):=by unfold lj;rw[m];exact Ik hn A
  obtain⟨D,E,G,F⟩:=Ks.1 j;have u:=DC l (held:=held.filter λr=>!(r.key==q.key)) (VN hn _) (λy s=>by
   obtain⟨r,w,g⟩:=ho y (by simp[s]);refine⟨r,zI.2 ⟨w,?_⟩,g⟩;have:r.key≠q.key:=λe=>by
    have H:r.addr=q.addr:=congrArg (λz:Key=>z.2.2) e;have:=(Ks.1 g).2.2.1;have:y=x:=by omega
    subst this;exact d.1 s
   simpa using this) d.2
  unfold uT at u ⊢;rw[qM,e1,u,y5];apply vO;intro r w;have e:(r.key==q.key)=(r.k==k&&(r.cls==cls&&(r.addr:Int)==x)):=by
   rw[lZ];simp only[Pc.key,zT,zF,Prod.mk.injEq];constructor
   ·rintro⟨a,b,c⟩;exact⟨O,O,O⟩
   ·rintro⟨a,b,c⟩;exact⟨O,O,O⟩
  rw[e];unfold dY;rw[List.contains_cons];cases r.k==k<;>cases r.cls==cls<;>cases((r.addr:Int)==x)<;>cases l.contains (r.addr:Int)<;>rfl
theorem Qz {held:List Pc}{k:Nat}{cls:Int}{l:List Int}{m:Bool}{p:Pc}:p∈Ho held k cls l m↔∃q∈held,p=if dY k cls l q then{q with eJ:=m}else q:=by
 unfold Ho;rw[zE];constructor
 ·rintro⟨q,hq,rfl⟩;exact⟨q,hq,rfl⟩
 ·rintro⟨q,hq,rfl⟩;exact⟨q,hq,rfl⟩
theorem SI {held:List Pc}{k:Nat}{cls:Int}{l:List Int}{m:Bool}:(Ho held k cls l m).map Pc.key=held.map Pc.key:=by
 unfold Ho;rw[lb];apply j2;intro p _;simp only[Function.comp];split<;>rfl
theorem Gn (hk:W.bX[k]?=some A)(h:WI W):WI (W.put k A W.sp W.held):=h.ly hk (St.refl (h.ga k A hk) (h.ow k A hk)) rfl (λ_ _=>Iff.rfl) rfl
theorem SA (h:GA A){j:Nat}{c:bZ}{ss:List cF}(hc:Cl A j c ss){l:Nat}{s:cF}{i:Nat}(hs:ss[l]?=some s)(hi:i<c.n){x:Nat}(h1:at_ c s i<=x)(h2:x<at_ c s i+c.size):UC A (x:Int)=some ((j:Int),at_ c s i):=by
 have a:=h.cD j c ss hc;have b:=Hs a.pos hi h1 h2;have d:=h.used hc (zG hs) b.1 b.2;have g:=h.pg.lt (p:=x/256) (by rw[d.1];omega);have r:=h.pg.n2;have m:=hc.lt;have e:=h.tb;unfold UC;rw[zB O,dE];simp only;rw[zC (show x/256<1024 by omega),d.2,zB O,zB O,Nat.add_sub_cancel,hc.1,hc.2];simp only;rw[(C6 a).2 ⟨l,s,i,hs,hi,rfl,O,O⟩];rfl
theorem EO (h:GA A){r:Nat×Nat}(hr:r∈A.runs){x:Nat}(h1:r.1*256<=x)(h2:x<(r.1+r.2)*256):UC A (x:Int)=some (-1,r.1*256):=by
 have a:=h.jv hr (p:=x/256) O O;have b:=h.pg.lt (p:=x/256) (by rw[a.1];omega);have d:=h.pg.n2;unfold UC;rw[zB O,dE];simp only;rw[zC (show x/256<1024 by omega),a.2,zB O,zC rfl,Bn h.oC hr O O];rfl
theorem OT (h:GA A){x:Int}{k:Int}{a:Nat}(hf:UC A x=some (k,a)):(k = -1/\∃r∈A.runs,a=r.1*256/\((r.1*256:Nat):Int)<=x/\x<(((r.1+r.2)*256:Nat):Int)) ∨
 ∃(j:Nat) (c:bZ) (ss:List cF) (l:Nat) (s:cF) (i:Nat),k=j/\Cl A j c ss/\ss[l]?=some s/\i<c.n/\a=at_ c s i/\((at_ c s i:Nat):Int)<=x/\x<((at_ c s i+c.size:Nat):Int):=by
 unfold UC at hf;split at hf
 ·cases hf
 ·rename_i hx;obtain⟨y,rfl⟩:=zc (show 0<=x by omega);rw[dE]at hf;simp only at hf;by_cases hlt:y/256<1024
  ·rw[zC hlt]at hf;split at hf
   ·cases hf
   ·split at hf
    ·rename_i h0 h41;obtain⟨r,e,b⟩:=oF.1 hf;have z:=sj e;have w:=tx e;simp at w;cases b;exact .inl ⟨rfl,r,z,rfl,O,O⟩
    ·rename_i h0 h41;split at hf
     ·rename_i c ss h1 h2;obtain⟨C,B,b⟩:=oF.1 hf;cases b;have d:Cl A (A.ow (y/256)-1) c ss:=⟨h1,h2⟩;obtain⟨l,s,i,u,p,rfl,m,g⟩:=(C6 (h.cD _ _ _ d)).1 B;exact .inr ⟨_,c,ss,l,s,i,rfl,d,u,p,rfl,m,g⟩
     ·cases hf
  ·rw[zB hlt,zC rfl]at hf;cases hf
theorem fN.find (h:GA A){j:Nat}{x:Int}(hx:fN A j x):∃y:Nat,x=y/\UC A x=some ((j:Int),y):=by
 obtain⟨c,m,b,d⟩:=hx;have a:=h.cD j c m b;obtain⟨l,s,i,g,e,rfl,p⟩:=(Vu a).1 d;exact⟨_,rfl,SA h b g e (zD _) (by have:=a.pos;omega)⟩
theorem AI (h:GA A){x:Int}:vE A x=true↔(∃j,fN A j x)\/∃r∈A.runs,x=((r.1*256:Nat):Int):=by
 constructor
 ·intro hx;unfold vE at hx;split at hx
  ·rename_i k a d;split at hx
   ·rename_i he;rcases OT h d with⟨rfl,r,hr,rfl,_⟩|⟨j,c,e,l,s,i,rfl,b,hs,hi,rfl,_⟩
    ·exact .inr ⟨r,hr,he.symm⟩
    ·rw[zB O,dE,b.1,b.2]at hx;exact .inl ⟨j,c,e,b,by simpa[Tk]using hx⟩
   ·cases hx
  ·cases hx
 ·rintro(⟨j,hj⟩|⟨r,hr,rfl⟩)
  ·obtain⟨y,rfl,d⟩:=hj.find h;obtain⟨c,e,b,g⟩:=hj;unfold vE;rw[d];simp only;rw[zC True.intro,zB O,dE,b.1,b.2];unfold Tk at g;show(dX c e (y:Int)==some true)=true;rw[g];rfl
  ·unfold vE;have:=h.gP r hr;rw[EO h hr (zD _) O];simp
theorem WI.vJ (h:WI W)(hk:W.bX[k]?=some A){cl:Int}{l:List Int}(ho:jd W.held k cl l=true){j:Nat}(e:cl=j):∀x∈l,¬gW A j x:=by
 intro x hx hin;obtain⟨p,i,a⟩:=(Kv.1 ho).1 x hx;obtain⟨g,r,m,b⟩:=Ks.1 a;obtain⟨c,_,_,_,d⟩:=h.cls i (j:=j) (by rw[r,e]) (by rw[g];exact hk);rw[m]at d;rw[d.2 hin]at b;cases b
theorem WI.grow (h:WI W)(hk:W.bX[k]?=some A)(x:Int):WI (W.put k (cL A W.sp x).1 (cL A W.sp x).2 W.held):=by
 obtain⟨s,e1,e2,a,_⟩:=I6 (h.ga k A hk) (h.ow k A hk) x;exact h.ly hk s e1 a e2
theorem WI.from (h:WI W)(hk:W.bX[k]?=some A)(cl m:Int):WI (W.put k (Yr A cl m) W.sp (W.held++(Ya A cl m).map λy=>⟨k,cl,y,oh W.tb cl,false⟩)):=by
 obtain⟨o,e1,e2,N,D,C⟩:=Et (h.ga k A hk) cl m;have tb:(Yr A cl m).tb=A.tb:=o.kp.tb;have i:∀y∈Ya A cl m,∃j:Nat,cl=j/\j<A.tb.length:=λy g=>N (λe=>by rw[e]at g;simp at g);have w:∀y∈Ya A cl m,∀p∈W.held,¬(p.k=k/\p.cls=cl/\p.addr=y):=by
  rintro y g p d ⟨F,J,K⟩;obtain⟨j,rfl,_⟩:=i y g;obtain⟨c,_,_,ht,_⟩:=h.cls d J (by rw[F];exact hk);rw[K]at ht;exact D y g (by rw[dE];exact ht)
 refine h.step hk (o.st (h.ow k A hk)) ?_ (λp d e=>?_) (λp B=>?_) (λj y g=>?_) λr hr=>?_
 ·rw[j9,nE];refine⟨h.hk,?_,λa H b G e=>?_⟩
  ·rw[lb];exact List.Pairwise.map (R:=(· ≠ ·)) _ (λa b z e=>z (by simpa[Pc.key]using e)) e2
  ·subst e;obtain⟨p,d,rfl⟩:=zE.1 H;obtain⟨q,L,e⟩:=zE.1 G;obtain⟨y,g,rfl⟩:=zE.1 L;simp only[Pc.key,Prod.mk.injEq]at e;exact w y g p d ⟨e.1.symm,e.2.1.symm,e.2.2.symm⟩
 ·rcases zL.1 d with d|d
  ·exact(h.hd hk d e).to tb o.runs (λj y s=>(C j y).2 (.inl s)) λj y=>by unfold gW;rw[e1]
  ·obtain⟨y,g,rfl⟩:=zE.1 d;obtain⟨j,rfl,s⟩:=i y g;refine .inr ⟨j,A.tb[j],rfl,by rw[tb];exact cU s,?_,(C j y).2 (.inr ⟨(dE j).symm,y,g,rfl⟩),?_⟩
   ·show oh W.tb (j:Int)=_;unfold oh;rw[dE,←h.tb k A hk,cU s];rfl
   ·constructor
    ·intro hx;cases hx
    ·rintro⟨t,ht,hx⟩;rw[e1]at ht;obtain⟨c,M,P,E,u⟩:=(h.ga k A hk).cl s;rw[ht]at u;cases u;exact(D y g (by rw[dE];exact(KX E).2 ((h.ga k A hk).l3 j c M t E ht _ hx))).elim
 ·rw[zL];constructor
  ·rintro(d|d)
   ·exact d
   ·obtain⟨y,_,rfl⟩:=zE.1 d;exact(B rfl).elim
  ·exact .inl
 ·rcases(C j y).1 g with g|⟨rfl,x,hx,rfl⟩
  ·obtain⟨p,d,q⟩:=h.ht k A hk j y g;exact⟨p,kv _ d,q⟩
  ·obtain⟨j,rfl,_⟩:=i x hx;exact⟨_,nJ _ (zE.2 ⟨x,hx,rfl⟩),rfl,by simp,rfl⟩
 ·rw[o.runs]at hr;obtain⟨p,d,q⟩:=h.hr k A hk r hr;exact⟨p,kv _ d,q⟩
theorem WI.xN (h:WI W){cl:Int}{l:List Int}(ho:jd W.held k cl l=true):uT W.held k cl l=W.held.filter λp=>!dY k cl l p:=
 DC l h.hk (Kv.1 ho).1 (Kv.1 ho).2
theorem WI.NX (h:WI W)(hk:W.bX[k]?=some A){cl:Int}{l:List Int}(ho:jd W.held k cl l=true):WI (W.put k (Zu A cl l) W.sp (if QJ A cl l=0 then uT W.held k cl l else W.held)):=by
 have ga:=h.ga k A hk;obtain⟨o,e1,e2,K⟩:=A9 ga (k:=cl) (xs:=l) λg x m=>by
  obtain⟨j,c,H,rfl,_⟩:=BS ga g;rw[dE];exact h.vJ hk ho rfl x m
 by_cases g:QJ A cl l=0
 ·rw[zC g,h.xN ho];obtain⟨j,c,H,rfl,L,M⟩:=BS ga g;have e2:=e2 g;rw[dE]at e2;refine h.step hk (o.st (h.ow k A hk)) (VN h.hk _) (λp s e=>?_) (λp E=>?_) (λi y G=>?_) λr hr=>?_
  ·have u:=zI.1 s;have D:dY k (j:Int) l p=false:=by simpa using u.2
   rcases h.hd hk u.1 e with⟨h1,h2,r,hr,h3⟩|⟨i,d,h1,h2,h3,h4,h5⟩
   ·exact .inl ⟨h1,h2,r,by rw[o.runs];exact hr,h3⟩
   ·refine .inr ⟨i,d,h1,by rw[o.kp.tb];exact h2,h3,(e2 i _).2 ⟨h4,λ⟨a,b⟩=>?_⟩,by unfold gW at h5 ⊢;rw[e1];exact h5⟩;have:dY k (j:Int) l p=true:=ZU.2 ⟨e,by rw[h1,a],b⟩;rw[D]at this;cases this
  ·rw[zI];have:dY k (j:Int) l p=false:=by
    apply nf.2;intro m;exact E (ZU.1 m).1
   rw[this];simp
  ·obtain⟨F,B⟩:=(e2 i y).1 G;obtain⟨p,s,z,C,w⟩:=h.ht k A hk i y F;refine⟨p,zI.2 ⟨s,?_⟩,z,C,w⟩;have:dY k (j:Int) l p=false:=by
    apply nf.2;intro m;obtain⟨_,N,J⟩:=ZU.1 m;exact B ⟨O,by rw[←w];exact J⟩
   rw[this];rfl
  ·rw[o.runs]at hr;obtain⟨p,s,z,C,w⟩:=h.hr k A hk r hr;refine⟨p,zI.2 ⟨s,?_⟩,z,C,w⟩;have:dY k (j:Int) l p=false:=by
    apply nf.2;intro m;have:=(ZU.1 m).2.1;omega
   rw[this];rfl
 ·rw[zB g,K g];exact Gn hk h
theorem WI.move (h:WI W)(hk:W.bX[k]?=some A){B:AR}{j:Nat}{l:List Int}{m:Bool}(o:Ob A B)(e1:∀i y,fN B i y↔fN A i y)(e2:∀i y,gW B i y↔if i=j/\y∈l then m=true else gW A i y):WI (W.put k B W.sp (Ho W.held k (j:Int) l m)):=by
 refine h.step hk (o.st (h.ow k A hk)) (by rw[SI];exact h.hk) (λp a e=>?_) (λp b=>?_) (λi y g=>?_) λr hr=>?_
 ·obtain⟨q,u,rfl⟩:=Qz.1 a;have d:q.k=k:=by
   split at e<;>exact e
  rcases h.hd hk u d with⟨h1,h2,r,hr,h3⟩|⟨i,c,h1,h2,h3,h4,h5⟩
  ·have:dY k (j:Int) l q=false:=by
    apply nf.2;intro hx;have:=(ZU.1 hx).2.1;omega
   rw[this];exact .inl ⟨h1,h2,r,by rw[o.runs];exact hr,h3⟩
  ·by_cases hx:dY k (j:Int) l q=true
   ·rw[zC hx];obtain⟨_,D,C⟩:=ZU.1 hx;have x:i=j:=by omega
    refine .inr ⟨i,c,h1,by rw[o.kp.tb];exact h2,h3,(e1 _ _).2 h4,?_⟩;show m=true↔gW B i (q.addr:Int);rw[e2,zC ⟨x,C⟩]
   ·rw[zB hx];refine .inr ⟨i,c,h1,by rw[o.kp.tb];exact h2,h3,(e1 _ _).2 h4,?_⟩;rw[e2,zB λg=>hx (ZU.2 ⟨d,by rw[h1,g.1],g.2⟩)];exact h5
 ·rw[Qz];constructor
  ·rintro⟨q,u,rfl⟩;have:dY k (j:Int) l q=false:=by
    apply nf.2;intro hx;rw[zC hx]at b;exact b (ZU.1 hx).1
   rw[this];exact u
  ·intro a;refine⟨p,a,?_⟩;have:dY k (j:Int) l p=false:=by
    apply nf.2;intro hx;exact b (ZU.1 hx).1
   rw[this];rfl
 ·obtain⟨p,a,s,w,z⟩:=h.ht k A hk i y ((e1 i y).1 g);refine⟨_,Qz.2 ⟨p,a,rfl⟩,?_,?_,?_⟩
  ·split<;>exact s
  ·split<;>exact w
  ·split<;>exact z
 ·rw[o.runs]at hr;obtain⟨p,a,s,w,z⟩:=h.hr k A hk r hr;refine⟨_,Qz.2 ⟨p,a,rfl⟩,?_,?_,?_⟩
  ·split<;>exact s
  ·split<;>exact w
  ·split<;>exact z
theorem IQ {held:List Pc}{k:Nat}{cls:Int}{m:Bool}:Ho held k cls [] m=held:=by
 unfold Ho;have:∀p,dY k cls [] p=false:=λp=>by simp[dY]
 simp[this]
theorem WI.we (h:WI W)(hk:W.bX[k]?=some A)(cl:Int):WI (W.put k (Zx A cl) W.sp (Ho W.held k cl (Yp A cl) false)):=by
 obtain⟨o,e1,e2,s,b,a⟩:=Fo (h.ga k A hk) cl;by_cases hv:Yp A cl=[]
 ·rw[hv,IQ];have m:∀j y,gW (Zx A cl) j y↔gW A j y:=λj y=>by rw[a,hv];simp
  refine h.step hk (o.st (h.ow k A hk)) h.hk (λp d e=>(h.hd hk d e).to o.kp.tb o.runs (λj y=>(e1 j y).2) m) (λ_ _=>Iff.rfl) (λj y g=>h.ht k A hk j y ((e1 j y).1 g)) λr hr=>h.hr k A hk r (by rw[←o.runs];exact hr)
 ·obtain⟨j,rfl,_⟩:=b hv;rw[dE]at a;exact h.move hk o e1 λi y=>by
   rw[a];split
   ·rename_i hx;simp[hx]
   ·rename_i hx;simp[hx]
theorem WI.RU (h:WI W)(hk:W.bX[k]?=some A){cl:Int}{l:List Int}(ho:jd W.held k cl l=true):WI (W.put k (QV A cl l) W.sp (if KQ A cl l then Ho W.held k cl l true else W.held)):=by
 by_cases a:KQ A cl l=true
 ·have b:∃j:Nat,cl=j:=by
   have d:U6 A cl l=0:=by
    unfold KQ at a;simp only[zF,zU]at a;exact a.1
   have b:A.ck cl=true:=by
    unfold U6 at d;split at d
    ·assumption
    ·cases d
   obtain⟨j,g,_⟩:=U0.1 b;exact⟨j,g⟩
  obtain⟨j,rfl⟩:=b;obtain⟨o,e1,e2,_⟩:=N5 (h.ga k A hk) (j:Int) (xs:=l) (Kv.1 ho).2 (by rw[dE];exact h.vJ hk ho rfl);obtain⟨_,_,e2⟩:=e2 a;rw[dE]at e2;rw[a,zC rfl];exact h.move hk o e1 λi y=>by
   rw[e2];split
   ·rename_i hx;simp[hx]
   ·rename_i hx;simp[hx]
 ·have a:KQ A cl l=false:=by simpa using a
  have e:QV A cl l=A:=by unfold QV;rw[a];rfl
  rw[a,e];exact Gn hk h
theorem WI.ve (h:WI W)(hk:W.bX[k]?=some A)(m a:Int):WI (W.put k (cA A W.sp m a).1 (cA A W.sp m a).2 (if Qi A W.sp m a=0 then W.held++[⟨k, -1,ZW A W.sp m a*256,m.toNat*256,false⟩]else W.held)):=by
 rcases IA (h.ga k A hk) (h.ow k A hk) m a with⟨e,hE,_⟩|⟨x,A1,sp1,g,hE,hV,e,htk,hor,s,et,ek⟩
 ·rw[zB hE,e];exact Gn hk h
 ·rw[zC hE,hV];have z:(cA A W.sp m a).1.runs=A.runs++[(x,m.toNat)]:=by rw[e]
  have w:∀r∈A.runs,r.1≠x:=by
   have hd:=s.ga.kr;rw[z]at hd;intro r hr e2;have u:=(pK.1 hd).2.2 r hr (x,m.toNat) aA;have B:=(h.ga k A hk).gP r hr;have i:=s.ga.gP (x,m.toNat) (by rw[z];simp);simp only at u i;omega
  refine h.step hk s ?_ (λp g e=>?_) (λp C=>?_) (λj y E=>?_) λr hr=>?_
  ·rw[j9,nE];refine⟨h.hk,by simp,λb D d hd e2=>?_⟩;subst e2;obtain⟨p,g,rfl⟩:=zE.1 D;simp only[zS,qh,zN,Pc.key,Prod.mk.injEq]at hd;obtain⟨_,r,hr,i,_⟩:=h.run g hd.2.1 (A:=A) (by rw[hd.1];exact hk);exact w r hr O
  ·rcases zL.1 g with g|g
   ·rcases h.hd hk g e with⟨u,B,r,hr,i⟩|⟨j,c,u,B,i,h4,h5⟩
    ·exact .inl ⟨u,B,r,by rw[z];exact kv _ hr,i⟩
    ·exact .inr ⟨j,c,u,by rw[s.tb];exact B,i,(ek _ _).2 h4,by unfold gW at h5 ⊢;rw[et];exact h5⟩
   ·simp only[zN]at g;subst g;exact .inl ⟨rfl,rfl,(x,m.toNat),by rw[z];simp,rfl,rfl⟩
  ·rw[zL];constructor
   ·rintro(g|g)
    ·exact g
    ·simp only[zN]at g;subst g;exact(C rfl).elim
   ·exact .inl
  ·obtain⟨p,g,q⟩:=h.ht k A hk j y ((ek j y).1 E);exact⟨p,kv _ g,q⟩
  ·rw[z]at hr;rcases zL.1 hr with hr|hr
   ·obtain⟨p,g,q⟩:=h.hr k A hk r hr;exact⟨p,kv _ g,q⟩
   ·simp only[zN]at hr;subst hr;exact⟨_,nJ _ (zN.2 rfl),rfl,rfl,rfl⟩
theorem WI.mW (h:WI W)(hk:W.bX[k]?=some A){r:Nat×Nat}(hr:r∈A.runs):jd W.held k (-1) [(r.1:Int)*256]=true:=by
 refine Kv.2 ⟨λx d=>?_,by simp⟩;simp only[zN]at d;subst d;obtain⟨p,e,b,a,g⟩:=h.hr k A hk r hr;exact⟨p,e,Ks.2 ⟨b,a,O,(h.run e a (by rw[b];exact hk)).1⟩⟩
theorem WI.wI (h:WI W)(hk:W.bX[k]?=some A)(x:Int):WI (W.put k (Qr A x) W.sp (if KH A x=0 then uT W.held k (-1) [x*256]else W.held)):=by
 have ga:=h.ga k A hk;obtain⟨⟨kp,g⟩,L,J,e1,e2⟩:=Jm ga x;by_cases h0:KH A x=0
 ·rw[zC h0];obtain⟨r,hr,rfl,G⟩:=e2 h0;rw[h.xN (h.mW hk hr)];have m:∀p:Pc,dY k (-1) [(r.1:Int)*256] p=true↔p.k=k/\p.cls = -1/\p.addr=r.1*256:=λp=>by
   rw[ZU];simp only[zN];constructor
   ·rintro⟨a,b,c⟩;exact⟨a,b,O⟩
   ·rintro⟨a,b,c⟩;exact⟨a,b,O⟩
  refine h.step hk (St.kp g (h.ow k A hk) kp) (VN h.hk _) (λp u e=>?_) (λp D=>?_) (λi y K=>?_) λq d=>?_
  ·have z:=zI.1 u;have s:¬dY k (-1) [(r.1:Int)*256] p=true:=by simpa using z.2
   rw[m]at s;rcases h.hd hk z.1 e with⟨h1,h2,q,d,w⟩|⟨j,c,h1,h2,w,H,C⟩
   ·refine .inl ⟨h1,h2,q,?_,w⟩;rw[G,zI];refine⟨d,?_⟩;have:q≠r:=by rintro rfl;exact s ⟨e,h1,w.1⟩
    simpa using this
   ·exact .inr ⟨j,c,h1,by rw[kp.tb];exact h2,w,(J _ _).2 H,by unfold gW at C ⊢;rw[L];exact C⟩
  ·rw[zI];have:dY k (-1) [(r.1:Int)*256] p=false:=by
    apply nf.2;intro hx;exact D (ZU.1 hx).1
   rw[this];simp
  ·obtain⟨p,u,B,E,F⟩:=h.ht k A hk i y ((J i y).1 K);refine⟨p,zI.2 ⟨u,?_⟩,B,E,F⟩;have:dY k (-1) [(r.1:Int)*256] p=false:=by
    apply nf.2;intro hx;have:=((m p).1 hx).2.1;omega
   rw[this];rfl
  ·rw[G,zI]at d;obtain⟨p,u,B,E,F⟩:=h.hr k A hk q d.1;refine⟨p,zI.2 ⟨u,?_⟩,B,E,F⟩;have:dY k (-1) [(r.1:Int)*256] p=false:=by
    apply nf.2;intro hx;have w:=((m p).1 hx).2.2;have H:=ga.gP q d.1;have C:=ga.gP r hr;have:q=r:=ga.gK d.1 hr (x:=q.1) O O O O;subst this;simp at d
   rw[this];rfl
 ·rw[zB h0,e1 h0];exact Gn hk h
theorem WI.tick (h:WI W)(hk:W.bX[k]?=some A):WI (W.put k (rW A) W.sp (xu (W.bX.set k (rW A)) W.held)):=by
 have ga:=h.ga k A hk;have t:=Mc ga;have z:=(cV.1 hk).1;have d:(W.bX.set k (rW A))[k]?=some (rW A):=zM z;have bS:∀p∈W.held,p∈xu (W.bX.set k (rW A)) W.held↔(p.k=k->∀j:Nat,p.cls=j->fN (rW A) j (p.addr:Int)):=by
  intro p a;unfold xu;rw[zI];simp only[a,si,nm,mh];by_cases hpk:p.k=k
  ·rw[hpk,d];simp only[true_implies];rcases h.hd hk a hpk with⟨h1,h2,r,hr,h3⟩|⟨j,c,h1,h2,h3,h4,h5⟩
   ·exact⟨λ_ j s=>O,λ_=>.inl h2⟩
   ·constructor
    ·intro hx i E;obtain rfl:i=j:=by omega
     rcases hx with hx|hx
     ·refine(t.tk i _).2 ⟨h4,λw=>?_⟩;rw[h5.2 w]at hx;cases hx
     ·rcases(AI t.ob.ga).1 hx with⟨j',hj'⟩|⟨r,hr,e⟩
      ·obtain⟨y,e,hf⟩:=((t.tk j' _).1 hj').1.find ga;obtain⟨H,L,b⟩:=h4.find ga;rw[hf]at b;have:j'=i:=by
        have:=congrArg Prod.fst (Option.some.inj b);simp only at this;omega
       rw[←this];exact hj'
      ·rw[t.ob.runs]at hr;have:=ga.gP r hr;have K:=EO ga hr (x:=r.1*256) (zD _) O;obtain⟨H,L,b⟩:=h4.find ga;rw[e,K]at b;have:=congrArg Prod.fst (Option.some.inj b);simp only at this;omega
    ·intro hx;by_cases hm:p.eJ=true
     ·exact .inr ((AI t.ob.ga).2 (.inl ⟨j,hx j h1⟩))
     ·exact .inl (by simpa using hm)
  ·constructor
   ·intro _ hx;exact(hpk hx).elim
   ·intro _;obtain⟨C,F,J⟩:=h.hf p a;rw[zk (Ne.symm hpk),F];rcases J with⟨h1,h2,_⟩|⟨j,c,_,_,_,h4,_⟩
    ·exact .inl h2
    ·exact .inr ((AI (h.ga _ C F)).2 (.inl ⟨j,h4⟩))
 have sub:∀p,p∈xu (W.bX.set k (rW A)) W.held->p∈W.held:=λp a=>(zI.1 a).1;refine h.step hk (t.ob.st (h.ow k A hk)) (VN h.hk _) (λp a e=>?_) (λp B=>⟨sub p,λa=>(bS p a).2 λe=>(B e).elim⟩) (λj y G=>?_) λr hr=>?_
 ·have D:=(bS p (sub p a)).1 a e;rcases h.hd hk (sub p a) e with⟨h1,h2,r,hr,h3⟩|⟨j,c,h1,h2,h3,h4,h5⟩
  ·exact .inl ⟨h1,h2,r,by rw[t.ob.runs];exact hr,h3⟩
  ·have s:=D j h1;refine .inr ⟨j,c,h1,by rw[t.ob.kp.tb];exact h2,h3,s,?_⟩;rw[h5];exact⟨((t.tk j _).1 s).2,t.sub j _⟩
 ·obtain⟨p,a,m,u,g⟩:=h.ht k A hk j y ((t.tk j y).1 G).1;refine⟨p,(bS p a).2 λ_ i E=>?_,m,u,g⟩;obtain rfl:i=j:=by omega
  rw[g];exact G
 ·rw[t.ob.runs]at hr;obtain⟨p,a,m,u,g⟩:=h.hr k A hk r hr;exact⟨p,(bS p a).2 λ_ i E=>O,m,u,g⟩
theorem WI.qd (h:WI W){p:Pc}(hp:p∈W.held)(hk:W.bX[p.k]?=some A){x:Nat}(h1:p.addr<=x)(h2:x<p.addr+p.size):A.f (x/256)=1:=by
 have ga:=h.ga _ A hk;rcases h.hd hk hp rfl with⟨_,_,r,hr,e1,e2⟩|⟨j,c,_,hc,e1,ht,_⟩
 ·exact(ga.jv hr O O).1
 ·obtain⟨b,w,a,d⟩:=ht;have:b=c:=Option.some.inj (a.1.symm.trans hc);subst this;have g:=ga.cD j b w a;obtain⟨l,s,i,u,m,e,_⟩:=(Vu g).1 d;have y:p.addr=at_ b s i:=Int.ofNat.inj e;have:=Hs g.pos m (s:=s) (x:=x) O O;exact(ga.used a (zG u) this.1 this.2).1
theorem fN.lt (h:GA A){j:Nat}{x:Int}(hx:fN A j x):∃y:Nat,x=y/\y<262144:=by
 obtain⟨c,r,b,e⟩:=hx;have a:=h.cD j c r b;obtain⟨l,s,i,m,g,rfl,u⟩:=(Vu a).1 e;have d:=Hs a.pos (s:=s) (x:=at_ c s i) g (zD _) (by have:=a.pos;omega);have w:=(h.used b (zG m) d.1 d.2).1;have:=h.pg.lt (p:=at_ c s i/256) O;have:=h.pg.n2;exact⟨_,rfl,O⟩
theorem WI.jG (h:WI W){p:Pc}(hp:p∈W.held):p.addr<262144/\p.addr+p.size<=270000:=by
 obtain⟨A,g,i⟩:=h.hf p hp;have ga:=h.ga _ A g;have u:=ga.pg.n2;rcases i with⟨_,_,r,hr,h1,h2⟩|⟨j,c,_,hc,h2,h3,_⟩
 ·have s:=ga.fit hr;have w:=ga.gP r hr;omega
 ·obtain⟨y,e,x⟩:=h3.lt ga;obtain⟨m,d,a,_⟩:=h3;have:m=c:=Option.some.inj (a.1.symm.trans hc);subst this;have b:=(ga.cD j _ d a).ok;unfold bZ.ok at b;omega
theorem CU:∀(N:Nat) (l:List Nat),l.Nodup->(∀x∈l,x<N)->l.length<=N
 | 0,l,_,h=>by
  cases l with
  | nil=>simp
  | cons x l=>have:=h x aA;omega
 | N+1,l,hn,h=>by
  have g:=CU N (l.filter (· != N)) (hn.sublist sX) λx b=>by
   have b:=zI.1 b;have:=h x b.1;have:x≠N:=by simpa using b.2
   omega
  have d:=List.length_eq_countP_add_countP (l:=l) (p:=(· != N));have i:l.countP (λa=>¬(a != N)=true)<=1:=by
   have e:l.countP (λa=>¬(a != N)=true)=l.count N:=by
    unfold List.count;apply List.countP_congr;intro x _;simp
   rw[e];exact yF.1 hn N
  rw[yA]at d;omega
theorem WI.apart (h:WI W){p q:Pc}(hp:p∈W.held)(hq:q∈W.held){x:Nat}(p1:p.addr<=x)(p2:x<p.addr+p.size)(q1:q.addr<=x)(q2:x<q.addr+q.size):p=q:=by
 obtain⟨A,m,H⟩:=h.hf p hp;obtain⟨B,y,E⟩:=h.hf q hq;have e1:=h.qd hp m p1 p2;have e2:=h.qd hq y q1 q2;have z:p.k=q.k:=h.one (x/256) p.k q.k A B m y O O;rw[←z,m]at y;cases y;have ga:=h.ga _ A m;have K:=ga.tb;have own:∀{r:Pc},Hd A r->r.addr<=x->x<r.addr+r.size->(r.cls = -1/\A.ow (x/256)=41/\∃u∈A.runs,r.addr=u.1*256/\u.1<=x/256/\x/256<u.1+u.2) ∨
  ∃(j:Nat) (c:bZ) (b:List cF) (l:Nat) (s:cF) (i:Nat),r.cls=j/\A.ow (x/256)=j+1/\Cl A j c b/\b[l]?=some s/\i<c.n/\r.addr=at_ c s i/\r.size=c.size:=by
  intro r hr r1 r2;rcases hr with⟨c1,_,u,hu,c2,c3⟩|⟨j,c,c1,c2,c3,c4,_⟩
  ·exact .inl ⟨c1,(ga.jv hu O O).2,u,hu,c2,O,O⟩
  ·obtain⟨d,b,a,G⟩:=c4;have:d=c:=Option.some.inj (a.1.symm.trans c2);subst this;have F:=ga.cD j d b a;obtain⟨l,s,i,D,C,e,_⟩:=(Vu F).1 G;have L:r.addr=at_ d s i:=Int.ofNat.inj e;have g:=Hs F.pos (s:=s) (x:=x) C O O;exact .inr ⟨j,d,b,l,s,i,c1,(ga.used a (zG D) g.1 g.2).2,a,D,C,L,c3⟩
 refine h.unique hp hq ?_;rcases own H p1 p2 with⟨a1,a2,u,hu,a3,a4,a5⟩|⟨j,c,b,l,s,i,a1,a2,a3,a4,a5,a6,a7⟩
 ·rcases own E q1 q2 with⟨b1,b2,w,hw,b3,b4,b5⟩|⟨j',d,ss',l',s',i',b1,b2,b3,b4,b5,b6,b7⟩
  ·have:=ga.gK hu hw a4 a5 b4 b5;subst this;unfold Pc.key;rw[z,a1,b1,a3,b3]
  ·have:=b3.lt;omega
 ·rcases own E q1 q2 with⟨b1,b2,w,hw,b3,b4,b5⟩|⟨j',d,ss',l',s',i',b1,b2,b3,b4,b5,b6,b7⟩
  ·have:=a3.lt;omega
  ·have J:j=j':=by omega
   subst J;obtain⟨rfl,rfl⟩:=a3.eq b3;have:=V0 (ga.cD j c b a3) a4 b4 a5 b5 (x:=x) O O O O;unfold Pc.key;rw[z,a1,b1,a6,b6,this.2.1,this.2.2]
theorem WI.size_pos (h:WI W){p:Pc}(hp:p∈W.held):8<=p.size/\p.size%8=0:=by
 obtain⟨A,e,g⟩:=h.hf p hp;have ga:=h.ga _ A e;rcases g with⟨_,_,r,hr,h1,h2⟩|⟨j,c,_,hc,h2,h3,_⟩
 ·have m:=ga.gP r hr;omega
 ·obtain⟨i,d,a,_⟩:=h3;have:i=c:=Option.some.inj (a.1.symm.trans hc);subst this;have b:=(ga.cD j _ d a).ok;unfold bZ.ok at b;omega
theorem WI.len (h:WI W):W.held.length<=262144:=by
 have u:(W.held.map (·.addr)).Nodup:=by
  have s:=l0.1 h.hk;refine l0.2 λi j g r d e=>?_;have b:i<W.held.length:=by simpa using g
  have a:j<W.held.length:=by simpa using r
  refine s i j (by simpa using b) (by simpa using a) d ?_;simp only[su]at e ⊢;have s1:=(h.size_pos (j3 b)).1;have s2:=(h.size_pos (j3 a)).1;rw[h.apart (j3 b) (j3 a) (x:=W.held[i].addr) (zD _) O O O]
 have:=CU 262144 _ u λx w=>by
  obtain⟨p,m,rfl⟩:=zE.1 w;exact(h.jG m).1
 simpa using this
end Go.Ar
namespace Go.Ar
open Go.Vc (bW dB cS)
def lX (live:List (Int×Bk))(k x:Int):Nat:=live.countP λe=>e.2.2.2.1==k&&e.1==x
def lp (ls:List Li)(k x:Int):Nat:=if 0<=k then(ls.getD k.toNat ij).os.count x else 0
def lQ (bs:List Bt)(k x:Int):Nat:=(bs.map λb=>if(b.1:Int)=k then b.2.count x else 0).sum
def jz (p:Option Ph)(k x:Int):Nat:=match p with
 | some (.dC s _)=>if k = -1/\x=s*256 then 1 else 0
 | _=>0
def gI (g:Th)(k x:Int):Nat:=lp g.ls k x+lQ g.bP k x+jz g.ph k x
def qI (H:Hw)(k x:Int):Nat:=lX H.live k x+(H.bQ.map λg=>gI g k x).sum
def Um (held:List Pc)(k x:Int):Prop:=∃p∈held,p.eJ=false/\p.cls=k/\(p.addr:Int)=x
open Classical in
noncomputable def kT (held:List Pc)(k x:Int):Nat:=if Um held k x then 1 else 0
theorem FH (held:List Pc)(k x:Int):kT held k x<=1:=by unfold kT;split<;>omega
theorem yV {held:List Pc}{k x:Int}(h:1<=kT held k x):Um held k x:=by
 unfold kT at h;split at h
 ·assumption
 ·omega
theorem Vr {held:List Pc}{k x:Int}(h:Um held k x):kT held k x=1:=by unfold kT;rw[zC h]
theorem Kb {held:List Pc}{k x:Int}(h:¬Um held k x):kT held k x=0:=by unfold kT;rw[zB h]
theorem Co {l:List Int}(hn:l.Nodup)(x:Int):l.count x=if x∈l then 1 else 0:=by
 split
 ·rename_i h;have b:=yF.1 hn x;have a:=Aj.2 h;omega
 ·rename_i h;exact xr.2 h
theorem Au {held held':List Pc}{cl:Int}{l:List Int}(hn:l.Nodup)(h0:∀x∈l,¬Um held cl x)(h:∀k x,Um held' k x↔Um held k x\/(k=cl/\x∈l))(k x:Int):kT held' k x=kT held k x+(if cl=k then l.count x else 0):=by
 by_cases hk:cl=k
 ·subst hk;rw[zC rfl,Co hn];by_cases hx:x∈l
  ·rw[zC hx,Kb (h0 x hx),Vr ((h _ _).2 (.inr ⟨rfl,hx⟩))]
  ·rw[zB hx,j7];by_cases hu:Um held cl x
   ·rw[Vr hu,Vr ((h _ _).2 (.inl hu))]
   ·rw[Kb hu,Kb λa=>by rcases(h _ _).1 a with a|⟨_,a⟩;exact hu a;exact hx a]
 ·rw[zB hk,j7];by_cases hu:Um held k x
  ·rw[Vr hu,Vr ((h _ _).2 (.inl hu))]
  ·rw[Kb hu,Kb λa=>by rcases(h _ _).1 a with a|⟨a,_⟩;exact hu a;exact hk a.symm]
theorem FK {held held':List Pc}{cl:Int}{l:List Int}(hn:l.Nodup)(h0:∀x∈l,Um held cl x)(h:∀k x,Um held' k x↔Um held k x/\¬(k=cl/\x∈l))(k x:Int):kT held k x=kT held' k x+(if cl=k then l.count x else 0):=by
 by_cases hk:cl=k
 ·subst hk;rw[zC rfl,Co hn];by_cases hx:x∈l
  ·rw[zC hx,Vr (h0 x hx),Kb λa=>((h _ _).1 a).2 ⟨rfl,hx⟩]
  ·rw[zB hx,j7];by_cases hu:Um held cl x
   ·rw[Vr hu,Vr ((h _ _).2 ⟨hu,λa=>hx a.2⟩)]
   ·rw[Kb hu,Kb λa=>hu ((h _ _).1 a).1]
 ·rw[zB hk,j7];by_cases hu:Um held k x
  ·rw[Vr hu,Vr ((h _ _).2 ⟨hu,λa=>hk a.1.symm⟩)]
  ·rw[Kb hu,Kb λa=>hu ((h _ _).1 a).1]
theorem Dh {α:Type}(f:α->Nat):∀{l:List α} {t:Nat} {g:α} (g':α),l[t]?=some g->((l.set t g').map f).sum+f g=(l.map f).sum+f g'
 | [],t,g,g',h=>by simp at h
 | a::l,0,g,g',h=>by
  simp only[xT,Option.some.injEq]at h;subst h;simp only[List.set_cons_zero,zS,nO];omega
 | a::l,t+1,g,g',h=>by
  have:=Dh f (l:=l) (t:=t) g' (by simpa using h);simp only[rX,zS,nO];omega
theorem AF {α:Type}(f:α->Nat){l:List α}{g:α}(h:g∈l):f g<=(l.map f).sum:=by
 induction l with
 | nil=>simp at h
 | cons a l ih=>
  simp only[zS,nO];rcases zW.1 h with rfl|h
  ·omega
  ·have:=ih h;omega
theorem G7 (ls:List Li)(k:Nat)(x:Int):lp ls (k:Int) x=(ls.getD k ij).os.count x:=by
 unfold lp;rw[zC O,dE]
theorem FG {ls:List Li}{j:Nat}(l:Li)(k:Nat)(h:j<ls.length):(ls.set j l).getD k ij=if k=j then l else ls.getD k ij:=by
 rw[zP,mI];by_cases hkj:k=j
 ·subst hkj;simp[h]
 ·rw[zB hkj,zB (Ne.symm hkj),zP]
theorem Ny {ls:List Li}{j:Nat}(l:Li)(h:j<ls.length)(k x:Int):lp (ls.set j l) k x+(if(j:Int)=k then(ls.getD j ij).os.count x else 0)=lp ls k x+(if(j:Int)=k then l.os.count x else 0):=by
 by_cases hk:0<=k
 ·obtain⟨k,rfl⟩:=zc hk;rw[G7,G7,FG l k h];by_cases hjk:j=k
  ·subst hjk;simp;omega
  ·have:¬(j:Int)=(k:Int):=by omega
   rw[zB (Ne.symm hjk),zB this,zB this]
 ·unfold lp;rw[zB hk,zB hk,zB O,zB O]
theorem Vo (k x:Int):lQ [] k x=0:=rfl
theorem Kw (b:Bt)(bs:List Bt)(k x:Int):lQ (b::bs) k x=(if(b.1:Int)=k then b.2.count x else 0)+lQ bs k x:=by
 unfold lQ;rw[zS,nO]
theorem Fk (a b:List Bt)(k x:Int):lQ (a++b) k x=lQ a k x+lQ b k x:=by
 unfold lQ;rw[j9,List.sum_append]
theorem CM {f:bZ->Li->List Int×Li}(hf:∀c l x,(f c l).1.count x+(f c l).2.os.count x=l.os.count x){tb:List bZ}{ls:List Li}(hl:ls.length=tb.length)(k x:Int):lQ (Q0 f tb ls) k x+lp (QT f tb ls) k x=lp ls k x:=by
 have key:∀n,n<=tb.length->lQ ((List.range n).filterMap λk=>match tb[k]?,ls[k]? with
  | some c,some l=>if(f c l).1=[]then none else some (k,(f c l).1)
  | _,_=>none) k x=if 0<=k/\k<(n:Int)then(match tb[k.toNat]?,ls[k.toNat]? with
  | some c,some l=>(f c l).1.count x
  | _,_=>0)else 0:=by
  intro n
  induction n with
  | zero=>intro _;rw[zB O];rfl
  | succ n i=>
   intro hn;have i:=i O;rw[pR,wk,Fk,i];have d:tb[n]?=some tb[n]:=cU O;have a:ls[n]?=some ls[n]:=cU O;have e:lQ ([n].filterMap λk=>match tb[k]?,ls[k]? with
    | some c,some l=>if(f c l).1=[]then none else some (k,(f c l).1)
    | _,_=>none) k x=if(n:Int)=k then(f tb[n] ls[n]).1.count x else 0:=by
    rw[Ae,d,a];simp only;by_cases he:(f tb[n] ls[n]).1=[]
    ·rw[zC he,he];simp[Vo]
    ·rw[zB he];simp only[List.filterMap_nil,Kw,Vo,j7]
   rw[e];by_cases b:0<=k/\k<(n:Int)
   ·rw[zC b,zB (show ¬(n:Int)=k by omega),j7,zC (show 0<=k/\k<((n+1:Nat):Int)from⟨b.1,O⟩)]
   ·rw[zB b,zH];by_cases g:(n:Int)=k
    ·subst g;rw[zC rfl,zC (show(0:Int)<=(n:Int)/\(n:Int)<((n+1:Nat):Int)from⟨O,O⟩),dE,d,a]
    ·rw[zB g,zB O]
 have b:=key tb.length (zD _);have e:Q0 f tb ls=(List.range tb.length).filterMap λk=>match tb[k]?,ls[k]? with
  | some c,some l=>if(f c l).1=[]then none else some (k,(f c l).1)
  | _,_=>none:=rfl
 rw[e,b];by_cases hk:0<=k
 ·obtain⟨k,rfl⟩:=zc hk;rw[G7,G7,dE];by_cases hkl:k<tb.length
  ·have d:tb[k]?=some tb[k]:=cU hkl;have a:ls[k]?=some ls[k]:=cU O;rw[zC ⟨O,O⟩,d,a];simp only;have:(QT f tb ls).getD k ij=(f tb[k] ls[k]).2:=by
    unfold QT;rw[zP,Bm,d,a];rfl
   rw[this,zP,a];exact hf _ _ _
  ·rw[zB O,zH];have b:(QT f tb ls).getD k ij=ij:=by
    unfold QT;rw[zP,zV (by rw[List.length_zipWith];omega)];rfl
   have g:ls.getD k ij=ij:=by rw[zP,zV O];rfl
   rw[b,g]
 ·rw[zB O,zH];unfold lp;rw[zB hk,zB hk]
theorem AB (m:Nat)(l:Li)(x:Int):(gp m l).1.count x+(gp m l).2.os.count x=l.os.count x:=by
 show(l.os.take m).count x+(l.os.drop m).count x=_;rw[←wX,nG]
theorem MT (c:bZ)(l:Li)(x:Int):(KE c l).1.count x+(KE c l).2.os.count x=l.os.count x:=AB _ l x
theorem Sv (c:bZ)(l:Li)(x:Int):(ZG c l).1.count x+(ZG c l).2.os.count x=l.os.count x:=AB _ l x
theorem LM (c:bZ)(y:Int)(l:Li)(hl:l.os.length<=255)(x:Int):(dK c y l).1.count x+(dK c y l).2.os.count x=l.os.count x + [y].count x:=by
 have a:(eA [y] l).os=l.os++[y]:=by
  unfold eA;rw[zB aE]
 unfold dK;rw[zB O];split
 ·rw[a,List.count_nil,zH,wX]
 ·rw[AB];have:(mo c (eA [y] l)).os=(eA [y] l).os:=by unfold mo;split<;>rfl
  rw[this,a,wX]
theorem Ev {c:bZ}{l l':Li}{y:Int}(h:QY c l=(some y,l'))(x:Int):l.os.count x=l'.os.count x + [y].count x:=by
 unfold QY at h;split at h
 ·simp at h
 ·rename_i z hz;cases h;have:l.os=l.os.dropLast++[y]:=by
   obtain⟨b,a⟩:=List.getLast?_eq_some_iff.1 hz;rw[a];simp
  conv=>lhs;rw[this]
  rw[wX]
theorem N7 {c:bZ}{l l':Li}(h:QY c l=(none,l')):l.os=[]/\l'.os=[]:=by
 unfold QY at h;split at h
 ·rename_i hz;have:l.os=[]:=by simpa using hz
  cases h;refine⟨this,?_⟩;split<;>exact this
 ·simp at h
theorem A5 {live:List (Int×Bk)}{x:Int}(b:Bk)(h:bW live x=none)(k y:Int):lX (dB live x b) k y=lX live k y+(if b.2.2.1=k then[x].count y else 0):=by
 have a:live.any (λe=>e.1==x)=false:=by
  rw[mF];intro e he hx;unfold bW at h;rw[qZ,nH]at h;exact h e he hx
 unfold dB;rw[a,zB aA];unfold lX;rw[List.countP_append]
 congr 1
 rw[vo,List.countP_nil,zH];by_cases h1:b.2.2.1=k
 ·by_cases h2:x=y
  ·subst h2;simp[h1]
  ·simp[h1,h2]
 ·simp[h1]
theorem Gi {live:List (Int×Bk)}{x:Int}{b:Bk}(h:bW live x=none){e:Int×Bk}:e∈dB live x b↔e∈live\/e=(x,b):=by
 have a:live.any (λe=>e.1==x)=false:=by
  rw[mF];intro e he hx;unfold bW at h;rw[qZ,nH]at h;exact h e he hx
 unfold dB;rw[a,zB aA,zL,zN]
theorem Gx {live:List (Int×Bk)}{x:Int}{e:Int×Bk}:e∈cS live x↔e∈live/\e.1≠x:=by
 unfold cS;rw[zI];simp
theorem yX:∀{live:List (Int×Bk)} {x:Int} {b:Bk},(live.map (·.1)).Nodup->bW live x=some b->∀k y,lX live k y=lX (cS live x) k y+(if b.2.2.1=k then[x].count y else 0)
 | [],x,b,_,h,_,_=>by simp[bW]at h
 | e::l,x,b,hn,h,k,y=>by
  rw[zS,zr]at hn;by_cases he:e.1=x
  ·have hb:e.2=b:=by
    unfold bW at h;rw[List.find?_cons_of_pos (by simpa using he)]at h;simpa using h
   have hd:cS (e::l) x=l:=by
    unfold cS;rw[uj (by simpa using he),pB];intro a ha;have:a.1≠x:=λg=>hn.1 (zE.2 ⟨a,ha,g.trans he.symm⟩);simpa using this
   rw[hd];unfold lX;rw[vo,hb,he]
   congr 1
   by_cases h1:b.2.2.1=k
   ·by_cases h2:x=y
    ·subst h2;simp[h1]
    ·simp[h1,h2]
   ·simp[h1]
  ·have i:bW l x=some b:=by
    unfold bW at h ⊢
    rwa [List.find?_cons_of_neg (by simpa using he)]at h
   have d:=yX hn.2 i k y;have hd:cS (e::l) x=e::cS l x:=by
    unfold cS;rw[uc (by simpa using he)]
   rw[hd];unfold lX at d ⊢;rw[vo,vo,d];omega
theorem Dk {live:List (Int×Bk)}{e:Int×Bk}(h:e∈live):1<=lX live e.2.2.2.1 e.1:=by
 unfold lX;exact List.countP_pos_iff.2 ⟨e,h,by simp⟩
structure jl (s s':Sp):Prop where
 l:s'.st.length=s.st.length
 z:∀p,gf s'.st p=0↔gf s.st p=0
 w:s'.wd=s.wd
def im (m:Nat)(g:Th):Prop:=match g.ph with
 | none=>g.bP=[]
 | some (.take k)=>g.bP=[]/\k<m
 | some (.cH k w)=>g.bP=[]/\k<m/\(g.li k).os=[]/\1<=w/\w<=32
 | some (.cJ k w)=>g.bP=[]/\k<m/\(g.li k).os=[]/\1<=w/\w<=32
 | some (.grow k w)=>g.bP=[]/\k<m/\(g.li k).os=[]/\1<=w/\w<=32
 | some .fill=>∃k x xs,g.bP=[(k,x::xs)]/\k<m/\(g.li k).os=[]/\xs.length<=128
 | some (.eD n)=>g.bP=[]/\1<=n/\n<=64
 | some (.find x)=>g.bP=[]/\iE x
 | some (.put k x)=>g.bP=[(k,[x])]/\k<m
 | some .back=>g.bP≠[]
 | some (.dC _ _)=>g.bP=[]
 | some .drain=>g.bP=[]
structure sA (m:Nat) (g:Th):Prop where
 ll:g.ls.length=m
 lo:∀l∈g.ls,fL l/\l.os.length<=128
 hb:∀b∈g.bP,b.1<m/\b.2≠[]/\b.2.length<=256
 hl:g.bP.length<=41
 ph:im m g
def Lv (held:List Pc)(e:Int×Bk):Prop:=e.2.1=e.1/\∃p∈held,p.eJ=false/\p.cls=e.2.2.2.1/\(p.addr:Int)=e.1/\e.2.2.1=(p.size:Int)/\e.2.2.2.2=(p.k:Int)
def Gv (held:List Pc)(s a:Int):Prop:=∃p∈held,p.eJ=false/\p.cls = -1/\(p.addr:Int)=s*256/\a=(p.k:Int)
structure HI (H:Hw) (held:List Pc) (s0:Sp):Prop where
 wi:WI ⟨H.tb,s0,H.bX,held⟩
 mH:jl s0 H.sp
 cn:∀k x,qI H k x=kT held k x
 lk:(H.live.map (·.1)).Nodup
 lv:∀e∈H.live,Lv held e
 gv:∀g∈H.bQ,∀s a,g.ph=some (.dC s a)->Gv held s a
 th:∀g∈H.bQ,sA H.tb.length g
 ok:∀c∈H.tb,c.ok
 a1:1<=H.bX.length
 sl:H.sp.st.length=H.cf.aF
variable {H:Hw}{held:List Pc}{s0:Sp}{t k:Nat}{g:Th}{A:AR}
theorem jl.refl (s:Sp):jl s s:=⟨rfl,λ_=>Iff.rfl,rfl⟩
theorem HI.apart (h:HI H held s0){p q:Pc}(hp:p∈held)(hq:q∈held){x:Nat}(p1:p.addr<=x)(p2:x<p.addr+p.size)(q1:q.addr<=x)(q2:x<q.addr+q.size):p=q:=h.wi.apart hp hq p1 p2 q1 q2
theorem WI.same {W:Wd}(h:WI W){p q:Pc}(hp:p∈W.held)(hq:q∈W.held)(e:p.addr=q.addr):p=q:=by
 have b:=(h.size_pos hp).1;have a:=(h.size_pos hq).1;exact h.apart hp hq (x:=p.addr) (zD _) O O O
theorem WI.um {W:Wd}(h:WI W){p:Pc}(hp:p∈W.held){k x:Int}(hu:Um W.held k x)(e:(p.addr:Int)=x):p.eJ=false/\p.cls=k:=by
 obtain⟨q,d,a,b,g⟩:=hu;obtain rfl:=h.same hp d O;exact⟨a,b⟩
theorem HI.mK (h:HI H held s0){e:Int×Bk}(he:e∈H.live):Um held e.2.2.2.1 e.1:=by
 obtain⟨_,p,g,a,d,b,_⟩:=h.lv e he;exact⟨p,g,a,d,b⟩
theorem HI.oP (h:HI H held s0){g:Th}(hg:g∈H.bQ)(k x:Int):gI g k x<=kT held k x:=by
 rw[←h.cn];unfold qI;have:=AF (λg=>gI g k x) hg;omega
theorem HI.pU (h:HI H held s0){g:Th}(hg:g∈H.bQ){k x:Int}(hc:1<=gI g k x):Um held k x:=yV (zh hc (h.oP hg k x))
theorem HI.lO (h:HI H held s0){g:Th}(hg:g∈H.bQ){k x:Int}(hc:1<=gI g k x):bW H.live x=none:=by
 cases hm:bW H.live x with
 | none=>rfl
 | some b=>
  have a:=Vg hm;have s:=h.pU hg hc;obtain⟨q,p,w,j,m⟩:=h.mK a;have r:k=b.2.2.1:=by
   have:=(h.wi.um (W:=⟨H.tb,s0,H.bX,held⟩) p s m).2;exact this.symm.trans j
  have i:=Dk a;have d:=h.cn k x;have u:=FH held k x;have e:=AF (λg=>gI g k x) hg;simp only at i e;unfold qI at d;rw[r]at d u e hc;omega
theorem HI.tF (h:HI H held s0){x:Int}(hn:∀k,¬Um held k x):bW H.live x=none:=by
 cases hm:bW H.live x with
 | none=>rfl
 | some b=>exact(hn _ (h.mK (Vg hm))).elim
theorem HI.fC (h:HI H held s0)(hg:H.bQ[t]?=some g){g':Th}{live':List (Int×Bk)}{s0' sp':Sp}{ars':List AR}{held':List Pc}(wi:WI ⟨H.tb,s0',ars',held'⟩)(mH:jl s0' sp')(hsl:sp'.st.length=H.sp.st.length)(hl:ars'.length=H.bX.length)
 (sub:∀p∈held',p.eJ=false->p∈held\/∀k,¬Um held k (p.addr:Int))
 (cn:∀k x,lX live' k x+gI g' k x+kT held k x=lX H.live k x+gI g k x+kT held' k x)
 (lk:(live'.map (·.1)).Nodup) (lv:∀e∈live',e∈H.live\/Lv held' e) (gv:∀s a,g'.ph=some (.dC s a)->Gv held' s a) (th:sA H.tb.length g') :
 HI {H with live:=live',sp:=sp',bX:=ars',bQ:=H.bQ.set t g'} held' s0':=by
 have r:∀k x,qI {H with live:=live',sp:=sp',bX:=ars',bQ:=H.bQ.set t g'} k x=kT held' k x:=λk x=>by
  have b:=h.cn k x;have u:=cn k x;have d:=Dh (λg=>gI g k x) g' hg;unfold qI at b ⊢;simp only at d ⊢;omega
 have F:=(cV.1 hg).1;have bS:∀p∈held,p.eJ=false->Um held' p.cls (p.addr:Int)->p∈held':=λp m E ⟨q,B,b,u,d⟩=>by
  rcases sub q B b with hs|hs
  ·have:q=p:=h.wi.same (W:=⟨H.tb,s0,H.bX,held⟩) hs m O;rw[←this];exact B
  ·exact(hs p.cls ⟨p,m,E,rfl,d.symm⟩).elim
 refine⟨wi,mH,r,lk,λe A=>?_,λw i s a m=>?_,λw i=>?_,h.ok,by simp only;rw[hl];exact h.a1,hsl.trans h.sl⟩
 ·rcases lv e A with he'|he'
  ·obtain⟨C,p,m,b,u,d,z⟩:=h.lv e he';refine⟨C,p,bS p m b ?_,b,u,d,z⟩;rw[u,d];apply yV;rw[←r];have:1<=lX live' e.2.2.2.1 e.1:=Dk A;unfold qI;simp only;omega
  ·exact he'
 ·rcases List.mem_iff_getElem?.1 i with⟨j,hj⟩;rcases KW hj with⟨rfl,rfl,_⟩|⟨hne,hj'⟩
  ·exact gv s a m
  ·obtain⟨p,y,b,u,d,z⟩:=h.gv w (zG hj') s a m;refine⟨p,bS p y b ?_,b,u,d,z⟩;rw[u,d];apply yV;rw[←r];have D:=AF (λg=>gI g (-1) (s*256)) i;have G:1<=gI w (-1) (s*256):=by unfold gI;rw[m];simp[jz]
   unfold qI;simp only at D ⊢;omega
 ·rcases List.mem_iff_getElem?.1 i with⟨j,hj⟩;rcases KW hj with⟨rfl,rfl,_⟩|⟨hne,hj'⟩
  ·exact th
  ·exact h.th w (zG hj')
theorem HI.ky (h:HI H held s0)(hg:H.bQ[t]?=some g){g':Th}{live':List (Int×Bk)}(cn:∀k x,lX live' k x+gI g' k x=lX H.live k x+gI g k x)(lk:(live'.map (·.1)).Nodup)(lv:∀e∈live',e∈H.live\/Lv held e)
 (gv:∀s a,g'.ph=some (.dC s a)->Gv held s a) (th:sA H.tb.length g'):HI {H with live:=live',bQ:=H.bQ.set t g'} held s0:=
 h.fC hg h.wi h.mH rfl rfl (λp b _=>.inl b) (λk x=>by have:=cn k x;omega) lk lv gv th
theorem PK {A:AR}{x:Int}:GZ A x=true↔0<=x/\A.f x.toNat≠0:=by
 unfold GZ AR.f gf;simp
theorem WI.owner {W:Wd}(h:WI W){p:Pc}(hp:p∈W.held){x:Nat}(h1:p.addr<=x)(h2:x<p.addr+p.size):XN W.bX (x:Int)=(p.k:Int):=by
 obtain⟨A,b,_⟩:=h.hf p hp;have g:=h.qd hp b h1 h2;have a:=(cV.1 b).1;have own:∀(j:Nat) (B:AR),W.bX[j]?=some B->(GZ B ((x:Int)/256)=true↔j=p.k):=λj B d=>by
  have e:((x:Int)/256).toNat=x/256:=by omega
  rw[PK,e];constructor
  ·rintro⟨_,hf⟩;exact h.one (x/256) j p.k B A d b hf O
  ·rintro rfl;rw[b]at d;cases d;exact⟨O,O⟩
 unfold XN;rw[zB O];have hf:W.bX.findIdx? (λA=>GZ A ((x:Int)/256))=some p.k:=by
  rw[m7];refine⟨a,(own p.k _ (cU a)).2 rfl,λj i=>?_⟩;have:=own j W.bX[j] (cU O);intro hx;have:=this.1 hx;omega
 rw[hf]
theorem HI.owner (h:HI H held s0){p:Pc}(hp:p∈held){x:Nat}(h1:p.addr<=x)(h2:x<p.addr+p.size):XN H.bX (x:Int)=(p.k:Int):=h.wi.owner (W:=⟨H.tb,s0,H.bX,held⟩) hp h1 h2
theorem HI.oO (h:HI H held s0){p:Pc}(hp:p∈held):XN H.bX (p.addr:Int)=(p.k:Int):=h.owner hp (zD _) (by have:=(h.wi.size_pos (W:=⟨H.tb,s0,H.bX,held⟩) hp).1;omega)
theorem HI.i63 (h:HI H held s0){k x:Int}(hu:Um held k x):iE x/\0<=x/\0<=XN H.bX x:=by
 obtain⟨p,a,_,_,rfl⟩:=hu;have:=(h.wi.jG (W:=⟨H.tb,s0,H.bX,held⟩) a).1;refine⟨by unfold iE;omega,O,?_⟩;rw[h.oO a];omega
end Go.Ar
namespace Go.Ar
open Go.Vc (bW dB cS)
open Go.Bu (Zc)
structure KS (s s':Sp):Prop where
 l:s'.st.length=s.st.length
 k:∀p,gf s.st p≠0->gf s'.st p≠0/\∀w,w/32=p->s'.wd w=s.wd w
theorem KS.refl (s:Sp):KS s s:=⟨rfl,λp a=>⟨a,λ_ _=>rfl⟩⟩
theorem KS.trans {a b c:Sp}(h:KS a b)(k:KS b c):KS a c:=⟨k.l.trans h.l,λp d=>⟨(k.k p (h.k p d).1).1,λw e=>((k.k p (h.k p d).1).2 w e).trans ((h.k p d).2 w e)⟩⟩
variable {s s' sp sp' s0 s0':Sp}{A B:AR}{k:Nat}
theorem jl.mz (h:jl s s'):s'.st.map (λx=>decide (x=0))=s.st.map λx=>decide (x=0):=by
 refine zo λi=>?_;rw[za,za];have a:=h.z i;unfold gf at a;rw[zP,zP]at a;by_cases hi:i<s.st.length
 ·have b:i<s'.st.length:=by rw[h.l];exact hi
  rw[cU hi,cU b]at a ⊢;simp only[pv]at a;simp[a]
 ·have d:=h.l;rw[zV O,zV O]
theorem Sz {l l':List Nat}(h:l'.map (λx=>decide (x=0))=l.map λx=>decide (x=0))(a m:Nat)(f:Bool->Bool):((l'.drop a).take m).any (λx=>f (decide (x=0)))=((l.drop a).take m).any λx=>f (decide (x=0)):=by
 have e:∀l:List Nat,((l.drop a).take m).any (λx=>f (decide (x=0)))=(((l.map λx=>decide (x=0)).drop a).take m).any f:=λl=>by
  rw[←List.map_drop,←List.map_take,List.any_map];rfl
 rw[e,e,h]
theorem jl.fA (h:jl s s')(a m:Int):fA s' a m=fA s a m:=by
 unfold Go.Ar.fA;rw[h.l];have:=Sz h.mz a.toNat m.toNat (λb=>!b);have e:∀l:List Nat,l.any (λx=>x != 0)=l.any λx=>!decide (x=0):=λl=>by
  refine congrArg l.any (funext λx=>?_);cases x<;>rfl
 rw[e,e,this]
theorem jl.set (h:jl s s'){a m v:Nat}(hl:a+m<=s.st.length):jl (s.set a m v) (s'.set a m v):=by
 refine⟨by simp[Sp.set,Ku,h.l],λp=>?_,?_⟩
 ·show gf (gC s'.st a (a+m) v) p=0↔gf (gC s.st a (a+m) v) p=0;rw[uD (by rw[h.l];exact hl),uD hl];split
  ·exact Iff.rfl
  ·exact h.z p
 ·show(λw=>if a*32<=w/\w<(a+m)*32 then 0 else s'.wd w)=_
  rw[h.w];rfl
theorem MU {n:Nat}{a m:Int}(h:Zc n a m=true):a.toNat+m.toNat<=n:=by
 by_cases h0:0<=a/\0<=m
 ·obtain⟨a,rfl⟩:=zc h0.1;obtain⟨m,rfl⟩:=zc h0.2;rw[dE,dE];exact(V2.1 h).2
 ·exfalso;unfold Zc at h;simp at h;omega
theorem jl.fT (h:jl s s')(a m:Int):jl (fT s a m) (fT s' a m):=by
 unfold Go.Ar.fT;rw[h.fA];split
 ·rename_i h0;refine h.set ?_;unfold Go.Ar.fA at h0;split at h0
  ·rename_i hr;exact MU hr
  ·simp at h0
 ·exact h
theorem Ek (s:Sp)(a m:Nat):KS s (fT s (a:Int) (m:Int)):=by
 by_cases h:fA s (a:Int) (m:Int)=0
 ·have j:=Bp h;obtain⟨g,r,i,_⟩:=CL h;refine⟨g,λp e=>?_⟩;have b:¬(a<=p/\p<a+m):=λd=>e (j.2.2 p d.1 d.2);exact⟨by rw[r,zB b];exact e,λw u=>i w O⟩
 ·unfold fT;rw[zB h];exact KS.refl s
theorem jl.cY (h:jl s s')(size:Nat):cY s' size=cY s size:=by
 unfold Go.Ar.cY;rw[h.l]
 congr 1
 funext x
 rw[h.fA]
theorem jl.cZ (h:jl s s')(A:AR)(m a no:Nat):(cZ A s' m a no).1=(cZ A s m a no).1/\(cZ A s' m a no).2.1=(cZ A s m a no).2.1/\jl (cZ A s m a no).2.2 (cZ A s' m a no).2.2/\KS s' (cZ A s' m a no).2.2:=by
 unfold Go.Ar.cZ;split
 ·exact⟨rfl,rfl,h,KS.refl _⟩
 ·unfold Ux;rw[h.cY];cases hg:Go.Ar.cY s (QP (max m a))with
  | none=>exact⟨rfl,rfl,h,KS.refl _⟩
  | some x=>
   simp only;split
   ·exact⟨rfl,rfl,h.fT _ _,Ek _ _ _⟩
   ·exact⟨rfl,rfl,h.fT _ _,Ek _ _ _⟩
theorem jl.cL (h:jl s s')(A:AR)(k:Int):(cL A s' k).1=(cL A s k).1/\KC A s' k=KC A s k/\jl (cL A s k).2 (cL A s' k).2/\KS s' (cL A s' k).2:=by
 unfold Go.Ar.cL KC;split
 ·split
  ·rename_i c ss _ _;obtain⟨b,e,d,a⟩:=h.cZ A c.aF 1 (k.toNat+1);cases e1:Go.Ar.cZ A s c.aF 1 (k.toNat+1)with
   | mk o1 r1=>cases e2:Go.Ar.cZ A s' c.aF 1 (k.toNat+1)with
    | mk o2 r2=>
     obtain⟨i,m⟩:=r1;obtain⟨g,j⟩:=r2;rw[e1,e2]at b e d;rw[e2]at a;simp only at b e d a;subst b;subst e;cases o2<;>exact⟨rfl,rfl,d,a⟩
  ·exact⟨rfl,rfl,h,KS.refl _⟩
 ·exact⟨rfl,rfl,h,KS.refl _⟩
theorem jl.cA (h:jl s s')(A:AR)(m a:Int):(cA A s' m a).1=(cA A s m a).1/\Qi A s' m a=Qi A s m a/\ZW A s' m a=ZW A s m a/\jl (cA A s m a).2 (cA A s' m a).2/\KS s' (cA A s' m a).2:=by
 unfold Go.Ar.cA Qi ZW;split
 ·obtain⟨d,g,e,b⟩:=h.cZ A m.toNat a.toNat 41;cases e1:Go.Ar.cZ A s m.toNat a.toNat 41 with
  | mk o1 r1=>cases e2:Go.Ar.cZ A s' m.toNat a.toNat 41 with
   | mk o2 r2=>
    obtain⟨j,r⟩:=r1;obtain⟨i,p⟩:=r2;rw[e1,e2]at d g e;rw[e2]at b;simp only at d g e b;subst d;subst g;cases o2<;>exact⟨rfl,rfl,rfl,e,b⟩
 ·exact⟨rfl,rfl,rfl,h,KS.refl _⟩
variable {W:Wd}
theorem Ir (h:WI W){cl:Int}{l:List Int}(ho:jd W.held k cl l=true)(c x:Int):Um (W.held.filter λp=>!dY k cl l p) c x↔Um W.held c x/\¬(c=cl/\x∈l):=by
 constructor
 ·rintro⟨p,hp,h1,h2,h3⟩;obtain⟨a,d⟩:=zI.1 hp;refine⟨⟨p,a,h1,h2,h3⟩,?_⟩;rintro⟨rfl,b⟩;obtain⟨q,i,e⟩:=(Kv.1 ho).1 x b;obtain⟨g,r,s,u⟩:=Ks.1 e;obtain rfl:=h.same (p:=p) (q:=q) a i O;have:dY k c l p=true:=ZU.2 ⟨g,h2,by rw[h3];exact b⟩;rw[this]at d;cases d
 ·rintro⟨⟨p,hp,h1,h2,h3⟩,d⟩;refine⟨p,zI.2 ⟨hp,?_⟩,h1,h2,h3⟩;have:dY k cl l p=false:=nf.2 λb=>by
   obtain⟨_,m,j⟩:=ZU.1 b;exact d ⟨h2.symm.trans m,by rw[←h3];exact j⟩
  rw[this];rfl
theorem N2 {held:List Pc}{cl:Int}{l:List Int}(ho:jd held k cl l=true):∀x∈l,Um held cl x:=λx d=>by
 obtain⟨q,g,a⟩:=(Kv.1 ho).1 x d;obtain⟨j,b,e,i⟩:=Ks.1 a;exact⟨q,g,i,b,e⟩
theorem Jp (h:WI W){cl:Int}{l:List Int}(ho:jd W.held k cl l=true)(c x:Int):Um (Ho W.held k cl l true) c x↔Um W.held c x/\¬(c=cl/\x∈l):=by
 constructor
 ·rintro⟨p,hp,h1,h2,h3⟩;obtain⟨q,b,rfl⟩:=Qz.1 hp;by_cases hof:dY k cl l q=true
  ·rw[zC hof]at h1;cases h1
  ·rw[zB hof]at h1 h2 h3;refine⟨⟨q,b,h1,h2,h3⟩,?_⟩;rintro⟨rfl,hx⟩;obtain⟨r,e,a⟩:=(Kv.1 ho).1 x hx;obtain⟨d,j,m,s⟩:=Ks.1 a;obtain rfl:=h.same b e O;exact hof (ZU.2 ⟨d,h2,by rw[h3];exact hx⟩)
 ·rintro⟨⟨p,hp,h1,h2,h3⟩,hn⟩;refine⟨p,Qz.2 ⟨p,hp,?_⟩,h1,h2,h3⟩;rw[zB];intro hx;obtain⟨_,i,g⟩:=ZU.1 hx;exact hn ⟨h2.symm.trans i,by rw[←h3];exact g⟩
theorem LK {held:List Pc}{cl:Int}{l:List Int}:∀p∈Ho held k cl l true,p.eJ=false->p∈held:=λp d a=>by
 obtain⟨q,b,rfl⟩:=Qz.1 d;by_cases hof:dY k cl l q=true
 ·rw[zC hof]at a;cases a
 ·rw[zB hof];exact b
theorem IU (h:WI W)(hk:W.bX[k]?=some A){j:Nat}:(∀x∈Yp A (j:Int),∀c,¬Um W.held c x)/\(Yp A (j:Int)).Nodup/\(∀c x,Um (Ho W.held k j (Yp A (j:Int)) false) c x↔Um W.held c x\/(c=j/\x∈Yp A (j:Int))) ∧
 (∀p∈Ho W.held k j (Yp A (j:Int)) false,p.eJ=false->p∈W.held\/∀c,¬Um W.held c (p.addr:Int)):=by
 obtain⟨o,e1,e2,H,J,M⟩:=Fo (h.ga k A hk) (j:Int);rw[dE]at e2;have y:∀x∈Yp A (j:Int),∃q∈W.held,q.k=k/\q.cls=j/\(q.addr:Int)=x/\q.eJ=true:=λx d=>by
  have u:=e2 x d;obtain⟨t,ht,e⟩:=u;have r:j<A.tb.length:=by rw[←(h.ga k A hk).lt];exact(cV.1 ht).1
  obtain⟨c,F,L,w,E⟩:=(h.ga k A hk).cl r;have s:fN A j x:=(KX w).2 ((h.ga k A hk).l3 j c F t w ht x e);obtain⟨q,a,m,i,b⟩:=h.ht k A hk j x s;obtain⟨_,_,_,_,B⟩:=h.cls a i (by rw[m];exact hk);exact⟨q,a,m,i,b,B.2 (by rw[b];exact⟨t,ht,e⟩)⟩
 have new:∀x∈Yp A (j:Int),∀c,¬Um W.held c x:=λx d c C=>by
  obtain⟨q,a,_,_,b,z⟩:=y x d;have:=(h.um a C b).1;rw[z]at this;cases this
 refine⟨new,H,λc x=>⟨?_,?_⟩,λp g K=>?_⟩
 ·rintro⟨p,g,h1,h2,h3⟩;obtain⟨q,a,rfl⟩:=Qz.1 g;by_cases hof:dY k (j:Int) (Yp A (j:Int)) q=true
  ·rw[zC hof]at h2 h3;obtain⟨_,D,G⟩:=ZU.1 hof;exact .inr ⟨h2.symm.trans D,by rw[←h3];exact G⟩
  ·rw[zB hof]at h1 h2 h3;exact .inl ⟨q,a,h1,h2,h3⟩
 ·rintro(⟨p,g,h1,h2,h3⟩|⟨rfl,d⟩)
  ·refine⟨p,Qz.2 ⟨p,g,?_⟩,h1,h2,h3⟩;split
   ·rw[←h1]
   ·rfl
  ·obtain⟨q,a,m,i,b,z⟩:=y x d;refine⟨{q with eJ:=false},Qz.2 ⟨q,a,?_⟩,rfl,i,b⟩;rw[zC (ZU.2 ⟨m,i,by rw[b];exact d⟩)]
 ·obtain⟨q,a,rfl⟩:=Qz.1 g;by_cases hof:dY k (j:Int) (Yp A (j:Int)) q=true
  ·rw[zC hof];exact .inr (new _ (ZU.1 hof).2.2)
  ·rw[zB hof];exact .inl a
theorem y6 {tb:List bZ}{bX:List AR}{sp:Sp}{held new:List Pc}(h:WI ⟨tb,sp,bX,held++new⟩):∀p∈new,∀c,¬Um held c (p.addr:Int):=by
 rintro p d c ⟨q,b,_,_,g⟩;have e:=h.same (p:=p) (q:=q) (nJ _ d) (kv _ b) O;have a:=h.hk;simp only[j9]at a;rw[nE]at a;exact a.2.2 q.key (zE.2 ⟨q,b,rfl⟩) p.key (zE.2 ⟨p,d,rfl⟩) (by rw[e])
theorem Es {held new:List Pc}{cl:Int}{l:List Int}(h1:∀p∈new,p.eJ=false/\p.cls=cl/\(p.addr:Int)∈l)(h2:∀x∈l,∃p∈new,(p.addr:Int)=x)(c x:Int):Um (held++new) c x↔Um held c x\/(c=cl/\x∈l):=by
 constructor
 ·rintro⟨p,b,a1,a2,a3⟩;rcases zL.1 b with b|b
  ·exact .inl ⟨p,b,a1,a2,a3⟩
  ·obtain⟨_,g,d⟩:=h1 p b;exact .inr ⟨a2.symm.trans g,by rw[←a3];exact d⟩
 ·rintro(⟨p,b,a⟩|⟨rfl,hx⟩)
  ·exact⟨p,kv _ b,a⟩
  ·obtain⟨p,b,e⟩:=h2 x hx;exact⟨p,nJ _ b,(h1 p b).1,(h1 p b).2.1,e⟩
theorem Ec {tb:List bZ}{bX:List AR}{sp:Sp}{held new:List Pc}(h:WI ⟨tb,sp,bX,held++new⟩):∀p∈held++new,p.eJ=false->p∈held\/∀c,¬Um held c (p.addr:Int):=λp a _=>by
 rcases zL.1 a with a|a
 ·exact .inl a
 ·exact .inr (y6 h p a)
theorem KJ {ss:List cF}:∀{i:Nat},Za ss i=none->∀k,k<i->∀s,ss[k]?=some s->¬s.many<s.tk.length
 | 0,_,k,hk,_,_=>by omega
 | i+1,h,k,hk,s,hs=>by
  unfold Za at h;by_cases hki:k=i
  ·subst hki;rw[hs]at h;simp only at h;intro hlt;rw[zC hlt]at h;split at h
   ·split at h
    ·split at h<;>cases h
    ·cases h
   ·cases h
  ·cases hi:ss[i]? with
   | none=>
    rw[hi]at h;exact KJ h k O s hs
   | some x=>
    rw[hi]at h;simp only at h;split at h
    ·split at h
     ·split at h
      ·split at h<;>cases h
      ·cases h
     ·exact KJ (by assumption) k O s hs
    ·exact KJ h k O s hs
theorem Sr (h:GA A)(hw:Ow A sp){j:Nat}(hE:KC A sp (j:Int)=0){w:Nat}(h1:1<=w):Ya (cL A sp (j:Int)).1 (j:Int) (w:Int)≠[]:=by
 rcases EY h hw (j:Int)with⟨_,hn,_⟩|⟨j',c,ss,x,A1,sp1,hj,hk,hk1,_,e,hst,r1,r2,r3,_,hd,hS⟩
 ·exact(hn hE).elim
 ·obtain rfl:j=j':=by omega
  have a:Cl (cL A sp (j:Int)).1 j c (ik c ss x):=by
   rw[e];have m:Cl (dN A1 x c.aF (j+1)) j c ss:=hk1;exact UE m _
  have D:=hS.ga.cD j c _ a;have b:(⟨x,List.replicate c.n false⟩:cF)∈ik c ss x:=Vh.2 (.inl rfl);have u:(cL A sp (j:Int)).1.ck (j:Int)=true:=U0.2 ⟨j,rfl,a.lt⟩;unfold Ya Qq Vk;rw[u,zC rfl,zB (show ¬((w:Int)<0) by omega),zC rfl,dE,dE,a.1,a.2];simp only;obtain⟨w,rfl⟩:∃v,w=v+1:=⟨w-1,O⟩;cases ho:iS c (ik c ss x)with
  | some r=>
   obtain⟨y,C⟩:=r;rw[Hu ho];simp
  | none=>
   exfalso;unfold iS iK at ho;obtain⟨l,z⟩:=zQ b;have p:=(cV.1 z).1;have g:(⟨x,List.replicate c.n false⟩:cF).many<(⟨x,List.replicate c.n false⟩:cF).tk.length:=by
    have:=D.ok.ri;simp[cF.many,xS];omega
   cases hb:Za (ik c ss x) (ik c ss x).length with
   | none=>exact KJ hb l p _ z g
   | some i=>
    rw[hb]at ho;obtain⟨_,s,B,d⟩:=QC hb;obtain⟨r,E,_⟩:=Gy d;simp only[B,E]at ho;cases ho
end Go.Ar
namespace Go.Ar
open Go.Vc (bW dB cS)
variable {H:Hw}{held:List Pc}{s0:Sp}{t k:Nat}{g:Th}{A:AR}{c:bZ}
theorem ZT {p:Ph}{H1:Hw}{g1:Th}{nx:Option Ph}{a e:Int}(ht:t<H.bQ.length)(hs:Wt H t p=({H1 with bQ:=H.bQ.set t g1},nx,a,e)):Qt H t p = {H1 with bQ:=H.bQ.set t {g1 with ph:=nx}}:=by
 unfold Qt;rw[hs];show Hw.dV _ t _=_;rw[Zs (g:=g1) (by simp[ht])];simp only[ns]
structure iz (H:Hw) (t:Nat) (p:Ph):Prop where
 ok:tU H t p
 hi:∃held s0,HI (Qt H t p) held s0
 ks:KS H.sp (Qt H t p).sp
theorem iz.mk' {p:Ph}(hg:H.bQ[t]?=some g)(hl:g.bP.length<=41)(h1:uw H t p){H':Hw}{held':List Pc}{s0':Sp}(e:Qt H t p=H')(h2:HI H' held' s0')(h3:KS H.sp H'.sp):iz H t p:=
 ⟨⟨h1,λb a=>by rw[hg]at a;cases a;omega⟩,⟨held',s0',by rw[e];exact h2⟩,by rw[e];exact h3⟩
def Rq (tb:List bZ)(g:Th):Ph->Int->Int->Prop
 | .take k,cl,sz=>cl=k/\∃c,tb[k]?=some c/\sz=c.size
 | .cH k _,cl,sz=>cl=k/\∃c,tb[k]?=some c/\sz=c.size
 | .cJ k _,cl,sz=>cl=k/\∃c,tb[k]?=some c/\sz=c.size
 | .grow k _,cl,sz=>cl=k/\∃c,tb[k]?=some c/\sz=c.size
 | .fill,cl,sz=>∃k xs r c,g.bP=(k,xs)::r/\cl=k/\tb[k]?=some c/\sz=c.size
 | .eD m,cl,sz=>cl = -1/\sz=((m*256:Nat):Int)
 | _,_,_=>False
def oA (H:Hw)(t:Nat):Ph->Nat
 | .take _=>5
 | .cH _ _=>4
 | .cJ k w=>if Ya (H.dZ t) (k:Int) (w:Int)=[]then 3 else 1
 | .grow _ _=>2
 | _=>0
def sk (H:Hw)(t:Nat)(p:Ph)(cl sz:Int):Prop:=
 (∃p' g',(Wt H t p).2.1=some p'/\(Qt H t p).live=H.live/\(Qt H t p).bQ[t]?=some g'/\Rq H.tb g' p' cl sz/\oA (Qt H t p) t p'<oA H t p) ∨
 ((Wt H t p).2.1=none/\(Wt H t p).2.2.2≠0/\(Wt H t p).2.2.1=0/\(Qt H t p).live=H.live) ∨
 ((Wt H t p).2.1=none/\(Wt H t p).2.2.2=0/\bW H.live (Wt H t p).2.2.1=none/\(Qt H t p).live=dB H.live (Wt H t p).2.2.1 ((Wt H t p).2.2.1,sz,cl,XN (Qt H t p).bX (Wt H t p).2.2.1))
theorem HI.mem (h:HI H held s0)(hg:H.bQ[t]?=some g):g∈H.bQ:=zG hg
theorem HI.jL (h:HI H held s0)(t:Nat):H.own t<H.bX.length:=tW _ (by have:=h.a1;omega)
theorem HI.dZ (h:HI H held s0)(t:Nat):H.bX[H.own t]?=some (H.dZ t):=by
 have a:=cU (h.jL t);rw[Bb a];exact a
theorem HI.qg (h:HI H held s0):H.tb.length<=40:=by
 have a:=h.dZ 0;have:=(h.wi.ga _ _ a).tb;rw[h.wi.tb _ _ a]at this;exact this
theorem HI.cls (h:HI H held s0)(hk:k<H.tb.length):∃c,H.tb[k]?=some c/\c.ok:=⟨H.tb[k],cU hk,h.ok _ (j3 hk)⟩
theorem sA.li {m:Nat}(h:sA m g)(hk:k<m):∃l,g.ls[k]?=some l/\g.li k=l/\fL l/\l.os.length<=128:=by
 have a:=cU (l:=g.ls) (i:=k) (by rw[h.ll];exact hk);have:=h.lo _ (j3 (by rw[h.ll];exact hk));exact⟨_,a,yq a,this.1,this.2⟩
theorem sA.gO {m:Nat}(h:sA m g){l':Li}(h1:fL l')(h2:l'.os.length<=128):(g.ls.set k l').length=m/\∀l∈g.ls.set k l',fL l/\l.os.length<=128:=by
 refine⟨by rw[nR];exact h.ll,λl a=>?_⟩;rcases yu a with a|rfl
 ·exact h.lo l a
 ·exact⟨h1,h2⟩
theorem Mm {ls:List Li}{l':Li}{hs:List Bt}{ph:Option Ph}(hk:k<ls.length):(⟨ls.set k l',hs,ph⟩:Th).li k=l':=by
 unfold Th.li;rw[FG l' k hk,zC rfl]
theorem HI.wO (h:HI H held s0){y:Int}(hu:Um held (k:Int) y)(hc:H.tb[k]?=some c):Lv held (y,(y,(c.size:Int),(k:Int),XN H.bX y)):=by
 obtain⟨p,d,i,g,rfl⟩:=hu;obtain⟨A,e,_⟩:=h.wi.hf p d;obtain⟨c',b,j,_⟩:=h.wi.cls d g e;rw[h.wi.tb _ _ e]at b;have a:H.tb[k]?=some c':=b;rw[hc]at a;cases a;exact⟨rfl,p,d,i,g,rfl,by rw[j],by rw[h.oO d]⟩
theorem Gj {ls:List Li}{l:Li}(hl:ls[k]?=some l)(l':Li)(k' x:Int):lp (ls.set k l') k' x+(if(k:Int)=k' then l.os.count x else 0)=lp ls k' x+(if(k:Int)=k' then l'.os.count x else 0):=by
 have:=Ny l' (cV.1 hl).1 k' x;rw[zP,hl]at this;exact this
theorem N8 {ls:List Li}{l:Li}(hl:ls[k]?=some l)(x:Int):lp ls (k:Int) x=l.os.count x:=by
 rw[G7,zP,hl];rfl
theorem L3 (h:HI H held s0)(hg:H.bQ[t]?=some g)(hph:g.ph=some (.take k)){cl sz:Int}(hr:Rq H.tb g (.take k) cl sz):iz H t (.take k)/\sk H t (.take k) cl sz:=by
 have K:=(cV.1 hg).1;have b:=h.th g (h.mem hg);obtain⟨Q,A⟩:g.bP=[]/\k<H.tb.length:=by have:=b.ph;unfold im at this;rw[hph]at this;exact this
 obtain⟨rfl,c,m,rfl⟩:=hr;have C:=h.ok c (zG m);obtain⟨l,hl,i,G,S⟩:=b.li A;have d:=Ce C G;have j:=HY hg;cases hT:QY c l with
 | mk o l'=>
  rw[hT]at d;cases o with
  | some y=>
   have z:Wt H t (.take k)=({{H with live:=dB H.live y (y,(c.size:Int),(k:Int),XN H.bX y)}with bQ:=H.bQ.set t {g with ls:=g.ls.set k l'}},none,y,0):=by
    simp only[Wt,j,VW m,i,hT,Vp,Zs hg,Th.gO]
   have e:=ZT K z;have u:1<=gI g (k:Int) y:=by
    have:=Ev hT y;rw[Ab]at this;unfold gI;rw[N8 hl];omega
   have P:=h.pU (h.mem hg) u;have N:=h.lO (h.mem hg) u;have p:l'.os.length<=128:=by
    have:l'.os.length<=l.os.length:=by
     unfold QY at hT;split at hT
     ·cases hT
     ·cases hT;simp
    omega
   obtain⟨ll,M⟩:=b.gO (k:=k) d p;have F:=h.ky hg (g':={g with ls:=g.ls.set k l',ph:=none}) (live':=dB H.live y (y,(c.size:Int),(k:Int),XN H.bX y)) (λD x=>by
    rw[A5 _ N];have E:=Gj hl l' D x;have W:=Ev hT x;unfold gI;rw[hph];simp only[jz];by_cases hkk:(k:Int)=D
    ·simp only[hkk,zR]at E ⊢;omega
    ·simp only[hkk,zz]at E ⊢;omega)
    (Go.Vc.gJ h.lk) (λV r=>by
     rcases(Gi N).1 r with r|rfl
     ·exact .inl r
     ·exact .inr (h.wO P m))
    (λs a L=>by cases L) ⟨ll,M,b.hb,b.hl,by unfold im;exact Q⟩
   refine⟨iz.mk' hg b.hl ⟨A,λU J B=>?_⟩ e F (KS.refl _),.inr (.inr ?_)⟩
   ·rw[j,i,VW m,hT]at B;cases B;exact(h.i63 P).1
   ·rw[e,z];exact⟨rfl,rfl,N,rfl⟩
  | none=>
   have z:Wt H t (.take k)=({H with bQ:=H.bQ.set t {g with ls:=g.ls.set k l'}},some (.cH k (GU c l')),0,0):=by
    simp only[Wt,j,VW m,i,hT,Zs hg,Th.gO]
   have e:=ZT K z;obtain⟨o1,o2⟩:=N7 hT;obtain⟨ll,M⟩:=b.gO (k:=k) d (by rw[o2];simp);have w:=d.nj;have R:1<=GU c l'/\GU c l'<=32:=by
    unfold bZ.ok at C;unfold GU;simp only at w;omega
   have F:=h.ky hg (g':={g with ls:=g.ls.set k l',ph:=some (.cH k (GU c l'))}) (live':=H.live) (λD x=>by
    have E:=Gj hl l' D x;rw[o1,o2]at E;unfold gI;rw[hph];simp only[jz];omega) h.lk (λV r=>.inl r) (λs a L=>by cases L) ⟨ll,M,b.hb,b.hl,by
     unfold im;exact⟨Q,A,by rw[Mm (by rw[b.ll];exact A)];exact o2,R⟩⟩
   refine⟨iz.mk' hg b.hl ⟨A,λU J B=>?_⟩ e F (KS.refl _),.inl ?_⟩
   ·rw[j,i,VW m,hT]at B;cases B
   ·rw[e,z];exact⟨_,_,rfl,rfl,zM K,⟨rfl,c,m,rfl⟩,by simp[oA]⟩
theorem HX (h:GA A)(h0:ZY A (k:Int)=0)(hc:A.tb[k]?=some c):∃x xs,Yp A (k:Int)=x::xs/\xs.length+1=c.batch:=by
 have a:Yp A (k:Int)=(match A.cM[k]? with
  | some t=>t.bs.getLast?.getD []
  | none=>[]):=by unfold Yp;rw[zC h0,dE];rfl
 unfold ZY at h0;rw[dE]at h0;split at h0
 ·split at h0
  ·rename_i t ht;split at h0
   ·cases h0
   ·rename_i hb;rw[ht]at a;simp only at a;have i:t.bs.getLast?=some (t.bs.getLast hb):=List.getLast?_eq_some_getLast hb;rw[i]at a;simp only[pv]at a;have:=h.pa k c t hc ht _ (List.getLast_mem hb);rw[←a]at this;have m:=h.cD;cases hx:Yp A (k:Int)with
    | nil=>
     rw[hx]at this;have d:k<A.tb.length:=(cV.1 hc).1;obtain⟨g,j,_,b,_⟩:=h.cl d;have e:g=c:=Option.some.inj (b.1.symm.trans hc);have:=(h.cD k g j b).ok;unfold bZ.ok at this;simp at *;subst e;omega
    | cons x xs=>exact⟨x,xs,rfl,by rw[hx]at this;simpa using this⟩
  ·cases h0
 ·cases h0
theorem Oj (h:HI H held s0)(hg:H.bQ[t]?=some g){w:Nat}(hph:g.ph=some (.cH k w)){cl sz:Int}(hr:Rq H.tb g (.cH k w) cl sz):iz H t (.cH k w)/\sk H t (.cH k w) cl sz:=by
 have C:=(cV.1 hg).1;have d:=h.th g (h.mem hg);obtain⟨J,D,z,P⟩:g.bP=[]/\k<H.tb.length/\(g.li k).os=[]/\1<=w/\w<=32:=by have:=d.ph;unfold im at this;rw[hph]at this;exact this
 obtain⟨rfl,c,i,rfl⟩:=hr;have K:=h.ok c (zG i);have p:=K;unfold bZ.ok at p;have A:=h.dZ t;have ga:=h.wi.ga _ _ A;have m:(H.dZ t).tb[k]?=some c:=by rw[h.wi.tb _ _ A];exact i
 have M:uw H t (.cH k w):=⟨D,λB=>by
  obtain⟨x,u,e,_⟩:=HX ga B m;rw[e];simp⟩
 by_cases hcase:w=c.batch/\ZY (H.dZ t) (k:Int)=0
 ·obtain⟨rfl,B⟩:=hcase;obtain⟨x,u,L,N⟩:=HX ga B m;have r:Wt H t (.cH k c.batch)=({H.cC (H.own t) (Zx (H.dZ t) (k:Int))with bQ:=H.bQ.set t {g with bP:=[(k,x::u)]}},some .fill,0,0):=by
   simp only[Wt,VW i,zR,B,QD,L];rw[Zs (g:=g) (by exact hg),J];rfl
  have e:=ZT (H1:=H.cC (H.own t) (Zx (H.dZ t) (k:Int))) C r;obtain⟨R,V,S,U⟩:=IU h.wi A (j:=k);have wi:=h.wi.we A (k:Int);have F:=h.fC hg (g':={g with bP:=[(k,x::u)],ph:=some .fill}) (live':=H.live) wi h.mH rfl (by simp[Wd.put]) U (λQ y=>by
   rw[Au V (λy W=>R y W _) S,L];unfold gI;rw[hph,J];simp only[jz,Kw,Vo];omega) h.lk (λX E=>.inl E) (λs a G=>by cases G) ⟨d.ll,d.lo,λb hb=>by
    simp only[zN]at hb;subst hb;exact⟨D,by simp,by simp;omega⟩,by simp,by
    unfold im;exact⟨k,x,u,rfl,D,z,O⟩⟩
  refine⟨iz.mk' hg d.hl M e F (KS.refl _),.inl ?_⟩;rw[e,r];exact⟨_,_,rfl,rfl,zM C,⟨k,x::u,[],c,rfl,rfl,i,rfl⟩,by simp[oA]⟩
 ·have r:Wt H t (.cH k w)=({H with bQ:=H.bQ.set t g},some (.cJ k w),0,0):=by
   have:H.bQ.set t g=H.bQ:=Z8 hg;rw[this];simp only[Wt,VW i];split
   ·split
    ·exact(hcase ⟨by assumption,by assumption⟩).elim
    ·rfl
   ·rfl
  have e:=ZT C r;have F:=h.ky hg (g':={g with ph:=some (.cJ k w)}) (live':=H.live) (λQ x=>by
   unfold gI;rw[hph];simp only[jz]) h.lk (λX E=>.inl E) (λs a G=>by cases G) ⟨d.ll,d.lo,d.hb,d.hl,by
    unfold im;exact⟨J,D,z,P⟩⟩
  refine⟨iz.mk' hg d.hl M e F (KS.refl _),.inl ?_⟩;rw[e,r];refine⟨_,_,rfl,rfl,zM C,⟨rfl,c,i,rfl⟩,?_⟩;simp only[oA];split<;>omega
theorem OO (h:GA A)(j w:Nat):(Ya A (j:Int) (w:Int)).length<=w:=by
 unfold Ya;split
 ·rename_i h0;have b:A.ck (j:Int)=true:=by
   unfold Qq at h0;split at h0
   ·assumption
   ·cases h0
  obtain⟨i,m,e⟩:=U0.1 b;obtain⟨c,d,t,a,g⟩:=h.cl e;have:i=j:=by omega
  subst this;unfold Vk;rw[dE,dE,a.1,a.2];exact(HM w (h.cD i c d a)).2.2.1
 ·simp
theorem MC (H:Hw)(t:Nat)(B:AR)(h:H.own t<H.bX.length)(sp:Sp)(bQ:List Th):Hw.dZ {H.cC (H.own t) B with sp:=sp,bQ:=bQ} t=B:=by
 refine Bb ?_;have:Hw.own {H.cC (H.own t) B with sp:=sp,bQ:=bQ} t=H.own t:=by unfold Hw.own Hw.cC;simp
 rw[this];simp[Hw.cC,h]
theorem Of (h:HI H held s0)(hg:H.bQ[t]?=some g){w:Nat}(hph:g.ph=some (.cJ k w)){cl sz:Int}(hr:Rq H.tb g (.cJ k w) cl sz):iz H t (.cJ k w)/\sk H t (.cJ k w) cl sz:=by
 have C:=(cV.1 hg).1;have d:=h.th g (h.mem hg);obtain⟨G,F,A,M⟩:g.bP=[]/\k<H.tb.length/\(g.li k).os=[]/\1<=w/\w<=32:=by have:=d.ph;unfold im at this;rw[hph]at this;exact this
 obtain⟨rfl,c,K,rfl⟩:=hr;have L:=h.dZ t;have ga:=h.wi.ga _ _ L;have wi:=h.wi.from L (k:Int) (w:Int);have i:=OO ga k w;have B:=(Et ga (k:Int) (w:Int)).2.2.1;cases hv:Ya (H.dZ t) (k:Int) (w:Int)with
 | nil=>
  have r:Wt H t (.cJ k w)=({H.cC (H.own t) (Yr (H.dZ t) (k:Int) (w:Int))with bQ:=H.bQ.set t g},some (.grow k w),0,0):=by
   have:H.bQ.set t g=H.bQ:=Z8 hg;rw[this];simp only[Wt,hv,zR,Hw.cC]
  have e:=ZT (H1:=H.cC (H.own t) (Yr (H.dZ t) (k:Int) (w:Int))) C r;rw[hv]at wi;simp only[qh,kV]at wi;have E:=h.fC hg (g':={g with ph:=some (.grow k w)}) (live':=H.live) wi h.mH rfl (by simp[Wd.put]) (λp j _=>.inl j) (λN y=>by
   unfold gI;rw[hph];simp only[jz]) h.lk (λS D=>.inl D) (λs a j=>by cases j) ⟨d.ll,d.lo,d.hb,d.hl,by
    unfold im;exact⟨G,F,A,M⟩⟩
  refine⟨iz.mk' hg d.hl trivial e E (KS.refl _),.inl ?_⟩;rw[e,r];exact⟨_,_,rfl,rfl,zM C,⟨rfl,c,K,rfl⟩,by simp[oA,hv]⟩
 | cons v vs=>
  have r:Wt H t (.cJ k w)=({H.cC (H.own t) (Yr (H.dZ t) (k:Int) (w:Int))with bQ:=H.bQ.set t {g with bP:=[(k,(v::vs).map λ(x:Nat)=>(x:Int))]}},some .fill,0,0):=by
   simp only[Wt,hv,QD];rw[zB aA,Zs (g:=g) (by exact hg),G];rfl
  have e:=ZT (H1:=H.cC (H.own t) (Yr (H.dZ t) (k:Int) (w:Int))) C r;rw[hv]at wi i B;have m:((v::vs).map λ(x:Nat)=>(x:Int)).Nodup:=List.Pairwise.map (R:=(· ≠ ·)) _ (λa b J e=>J O) B;have app:=Es (held:=held) (new:=(v::vs).map λy=>(⟨H.own t,(k:Int),y,oh H.tb (k:Int),false⟩:Pc)) (cl:=(k:Int)) (l:=(v::vs).map λ(x:Nat)=>(x:Int)) (λp j=>by
   obtain⟨y,u,rfl⟩:=zE.1 j;exact⟨rfl,rfl,zE.2 ⟨y,u,rfl⟩⟩) λx Q=>by
   obtain⟨y,u,rfl⟩:=zE.1 Q;exact⟨_,zE.2 ⟨y,u,rfl⟩,rfl⟩
  have new:=y6 wi;have E:=h.fC hg (g':={g with bP:=[(k,(v::vs).map λ(x:Nat)=>(x:Int))],ph:=some .fill}) (live':=H.live) wi h.mH rfl (by simp[Wd.put]) (Ec wi) (λN y=>by
   rw[Au m (λy u=>by
    obtain⟨z,P,rfl⟩:=zE.1 u;exact new ⟨H.own t,(k:Int),z,oh H.tb (k:Int),false⟩ (zE.2 ⟨z,P,rfl⟩) _) app]
   unfold gI;rw[hph,G];simp only[jz,Kw,Vo];omega) h.lk (λS D=>.inl D) (λs a j=>by cases j) ⟨d.ll,d.lo,λb hb=>by
    simp only[zN]at hb;subst hb;exact⟨F,by simp,by simp at i ⊢;omega⟩,by simp,by
    unfold im;exact⟨k,(v:Int),vs.map λ(x:Nat)=>(x:Int),rfl,F,A,by simp at i ⊢;omega⟩⟩
  refine⟨iz.mk' hg d.hl trivial e E (KS.refl _),.inl ?_⟩;rw[e,r];refine⟨_,_,rfl,rfl,zM C,⟨k,_,[],c,rfl,rfl,K,rfl⟩,?_⟩;simp[oA,hv]
theorem Ld (h:HI H held s0)(hg:H.bQ[t]?=some g){w:Nat}(hph:g.ph=some (.grow k w)){cl sz:Int}(hr:Rq H.tb g (.grow k w) cl sz):iz H t (.grow k w)/\sk H t (.grow k w) cl sz:=by
 have u:=(cV.1 hg).1;have b:=h.th g (h.mem hg);obtain⟨D,G,B,C⟩:g.bP=[]/\k<H.tb.length/\(g.li k).os=[]/\1<=w/\w<=32:=by have:=b.ph;unfold im at this;rw[hph]at this;exact this
 obtain⟨rfl,c,F,rfl⟩:=hr;have A:=h.dZ t;have ga:=h.wi.ga _ _ A;obtain⟨e1,e2,E,r⟩:=h.mH.cL (H.dZ t) (k:Int);have wi:=h.wi.grow A (k:Int);by_cases h0:KC (H.dZ t) H.sp (k:Int)=0
 ·have m:Wt H t (.grow k w)=({{H.cC (H.own t) (cL (H.dZ t) H.sp (k:Int)).1 with sp:=(cL (H.dZ t) H.sp (k:Int)).2}with bQ:=H.bQ.set t g},some (.cJ k w),0,0):=by
   have:H.bQ.set t g=H.bQ:=Z8 hg;rw[this];simp only[Wt,h0,zR,Hw.cC]
  have e:=ZT (H1:={H.cC (H.own t) (cL (H.dZ t) H.sp (k:Int)).1 with sp:=(cL (H.dZ t) H.sp (k:Int)).2}) u m;have d:=Sr ga (h.wi.ow _ _ A) (j:=k) (by rw[←e2];exact h0) C.1;rw[show(Wd.mk H.tb s0 H.bX held).sp=s0 from rfl,←e1]at d;rw[show(Wd.mk H.tb s0 H.bX held).sp=s0 from rfl,←e1]at wi;have z:=h.fC hg (g':={g with ph:=some (.cJ k w)}) (live':=H.live) wi E r.l (by simp[Wd.put]) (λp i _=>.inl i) (λJ y=>by
   unfold gI;rw[hph];simp only[jz]) h.lk (λK x=>.inl x) (λs a i=>by cases i) ⟨b.ll,b.lo,b.hb,b.hl,by
    unfold im;exact⟨D,G,B,C⟩⟩
  refine⟨iz.mk' hg b.hl trivial e z r,.inl ?_⟩;rw[e,m];refine⟨_,_,rfl,rfl,zM u,⟨rfl,c,F,rfl⟩,?_⟩;have:=MC H t (cL (H.dZ t) H.sp (k:Int)).1 (h.jL t) (cL (H.dZ t) H.sp (k:Int)).2 (H.bQ.set t {g with ph:=some (.cJ k w)});simp only[oA];rw[this,zB d];omega
 ·have m:Wt H t (.grow k w)=({{H.cC (H.own t) (cL (H.dZ t) H.sp (k:Int)).1 with sp:=(cL (H.dZ t) H.sp (k:Int)).2}with bQ:=H.bQ.set t g},none,0,KC (H.dZ t) H.sp (k:Int)):=by
   have:H.bQ.set t g=H.bQ:=Z8 hg;rw[this];simp only[Wt,h0,zz,Hw.cC]
  have e:=ZT (H1:={H.cC (H.own t) (cL (H.dZ t) H.sp (k:Int)).1 with sp:=(cL (H.dZ t) H.sp (k:Int)).2}) u m;rw[show(Wd.mk H.tb s0 H.bX held).sp=s0 from rfl,←e1]at wi;have z:=h.fC hg (g':={g with ph:=none}) (live':=H.live) wi E r.l (by simp[Wd.put]) (λp i _=>.inl i) (λJ y=>by
   unfold gI;rw[hph];simp only[jz]) h.lk (λK x=>.inl x) (λs a i=>by cases i) ⟨b.ll,b.lo,b.hb,b.hl,by
    unfold im;exact D⟩
  refine⟨iz.mk' hg b.hl trivial e z r,.inr (.inl ?_)⟩;rw[e,m];exact⟨rfl,h0,rfl,rfl⟩
theorem MO (h:HI H held s0)(hg:H.bQ[t]?=some g)(hph:g.ph=some .fill){cl sz:Int}(hr:Rq H.tb g .fill cl sz):iz H t .fill/\sk H t .fill cl sz:=by
 have Q:=(cV.1 hg).1;have d:=h.th g (h.mem hg);obtain⟨k,x,xs,A,K,i,L⟩:∃k x xs,g.bP=[(k,x::xs)]/\k<H.tb.length/\(g.li k).os=[]/\xs.length<=128:=by have:=d.ph;unfold im at this;rw[hph]at this;exact this
 obtain⟨k',W,r,c,z,rfl,F,rfl⟩:=hr;rw[A]at z;obtain⟨j, -⟩:=List.cons.inj z;obtain rfl:k=k':=congrArg Prod.fst j;obtain⟨l,hl,p,D,P⟩:=d.li K;have u:=HY hg;rw[p]at i;have m:(eA xs.reverse l).os=xs.reverse:=by unfold eA;rw[i,zB aE];simp
 have J:Wt H t .fill=({{H with live:=dB H.live x (x,(c.size:Int),(k:Int),XN H.bX x)}with bQ:=H.bQ.set t {ls:=g.ls.set k (eA xs.reverse l),bP:=[],ph:=g.ph}},none,x,0):=by
  simp only[Wt,u,A,VW F,Vp,Zs hg,p]
 have e:=ZT Q J;have w:1<=gI g (k:Int) x:=by
  unfold gI;rw[A,Kw,zC rfl];have:1<=(x::xs).count x:=Aj.2 aA;simp only;omega
 have G:=h.pU (h.mem hg) w;have E:=h.lO (h.mem hg) w;obtain⟨R,U⟩:=d.gO (k:=k) (xy (xs:=xs.reverse) D) (by rw[m];simp;omega);have M:=h.ky hg (g':={ls:=g.ls.set k (eA xs.reverse l),bP:=[],ph:=none}) (live':=dB H.live x (x,(c.size:Int),(k:Int),XN H.bX x)) (λk' y=>by
  rw[A5 _ E];have C:=Gj hl (eA xs.reverse l) k' y;rw[i,m,List.count_reverse,List.count_nil]at C;have V:(x::xs).count y=[x].count y+xs.count y:=wX (l₁:=[x]) (l₂:=xs);unfold gI;rw[hph,A];simp only[jz,Kw,Vo];by_cases j:(k:Int)=k'
  ·simp only[j,zR]at C ⊢;omega
  ·simp only[j,zz]at C ⊢;omega)
  (Go.Vc.gJ h.lk) (λX B=>by
   rcases(Gi E).1 B with B|rfl
   ·exact .inl B
   ·exact .inr (h.wO G F))
  (λs a S=>by cases S) ⟨R,U,λb N=>by simp at N,by simp,by unfold im;rfl⟩
 refine⟨iz.mk' hg d.hl ⟨k,x,xs,[],by rw[u];exact A,K,(h.i63 G).1,by rw[u,p,i];simp;omega⟩ e M (KS.refl _),.inr (.inr ?_)⟩;rw[e,J];exact⟨rfl,rfl,E,rfl⟩
theorem Nh (h:HI H held s0)(hg:H.bQ[t]?=some g){m:Nat}(hph:g.ph=some (.eD m)){cl sz:Int}(hr:Rq H.tb g (.eD m) cl sz):iz H t (.eD m)/\sk H t (.eD m) cl sz:=by
 have L:=(cV.1 hg).1;have b:=h.th g (h.mem hg);obtain⟨M,S,Q⟩:g.bP=[]/\1<=m/\m<=64:=by have:=b.ph;unfold im at this;rw[hph]at this;exact this
 obtain⟨rfl,rfl⟩:=hr;have K:=h.dZ t;have ga:=h.wi.ga _ _ K;obtain⟨e1,e2,U,P,B⟩:=h.mH.cA (H.dZ t) (m:Int) 1;have wi:=h.wi.ve K (m:Int) 1;rw[show(Wd.mk H.tb s0 H.bX held).sp=s0 from rfl,←e1,←e2,←U]at wi;by_cases h0:Qi (H.dZ t) H.sp (m:Int) 1=0
 ·rw[zC h0]at wi;have j:=y6 wi;have A:=Es (held:=held) (new:=[(⟨H.own t, -1,ZW (H.dZ t) H.sp (m:Int) 1*256,(m:Int).toNat*256,false⟩:Pc)]) (cl:=-1) (l:=[((ZW (H.dZ t) H.sp (m:Int) 1*256:Nat):Int)]) (λp d=>by
   simp only[zN]at d;subst d;exact⟨rfl,rfl,by simp⟩) λx D=>by
   simp only[zN]at D;subst D;exact⟨_,zN.2 rfl,rfl⟩
  have i:(⟨H.own t, -1,ZW (H.dZ t) H.sp (m:Int) 1*256,(m:Int).toNat*256,false⟩:Pc)∈held++[(⟨H.own t, -1,ZW (H.dZ t) H.sp (m:Int) 1*256,(m:Int).toNat*256,false⟩:Pc)]:=by simp
  have E:=wi.size_pos i;have w:=wi.jG i;have J:=wi.owner i (x:=ZW (H.dZ t) H.sp (m:Int) 1*256) (zD _) (by simp only at E ⊢;omega);generalize C:ZW (H.dZ t) H.sp (m:Int) 1=V at *;have r:bW H.live ((V*256:Nat):Int)=none:=h.tF λG R=>j _ (zN.2 rfl) G R;have z:Wt H t (.eD m)=({{H.cC (H.own t) (cA (H.dZ t) H.sp (m:Int) 1).1 with sp:=(cA (H.dZ t) H.sp (m:Int) 1).2,live:=dB H.live ((V*256:Nat):Int) (((V*256:Nat):Int),((m*256:Nat):Int), -1,XN (H.bX.set (H.own t) (cA (H.dZ t) H.sp (m:Int) 1).1) ((V*256:Nat):Int))}with bQ:=H.bQ.set t g},none,((V*256:Nat):Int),0):=by
   have:H.bQ.set t g=H.bQ:=Z8 hg;rw[this];simp only[Wt,h0,zR,Hw.cC,Vp,C]
  have e:=ZT (H1:={H.cC (H.own t) (cA (H.dZ t) H.sp (m:Int) 1).1 with sp:=(cA (H.dZ t) H.sp (m:Int) 1).2,live:=dB H.live ((V*256:Nat):Int) (((V*256:Nat):Int),((m*256:Nat):Int), -1,XN (H.bX.set (H.own t) (cA (H.dZ t) H.sp (m:Int) 1).1) ((V*256:Nat):Int))}) L z;have F:=h.fC hg (g':={g with ph:=none}) (live':=dB H.live ((V*256:Nat):Int) (((V*256:Nat):Int),((m*256:Nat):Int), -1,XN (H.bX.set (H.own t) (cA (H.dZ t) H.sp (m:Int) 1).1) ((V*256:Nat):Int))) wi P B.l (by simp[Wd.put]) (Ec wi) (λG y=>by
   rw[A5 _ r,Au (l:=[((V*256:Nat):Int)]) (cl:=-1) aA (λy N=>by
    simp only[zN]at N;subst N;exact j _ (zN.2 rfl) _) A]
   unfold gI;rw[hph];simp only[jz];omega) (Go.Vc.gJ h.lk) (λW u=>by
    rcases(Gi r).1 u with u|rfl
    ·exact .inl u
    ·refine .inr ⟨rfl,_,i,rfl,rfl,rfl,?_,?_⟩
     ·simp
     ·exact J) (λs a d=>by cases d) ⟨b.ll,b.lo,b.hb,b.hl,by
    unfold im;exact M⟩
  refine⟨iz.mk' hg b.hl ?_ e F B,.inr (.inr ?_)⟩
  ·show ZW (H.dZ t) H.sp (m:Int) 1<=1000000;rw[C];simp only at w;omega
  ·rw[e,z];exact⟨rfl,rfl,r,rfl⟩
 ·rw[zB h0]at wi;have C:ZW (H.dZ t) H.sp (m:Int) 1=0:=by
   unfold Qi at h0;unfold ZW;split
   ·rename_i d;rw[d,zC rfl]at h0;split at h0
    ·exact(h0 rfl).elim
    ·rename_i hn;cases D:(cZ (H.dZ t) H.sp (m:Int).toNat (1:Int).toNat 41).1 with
     | none=>rfl
     | some y=>rw[D]at hn;simp at hn
   ·rfl
  have z:Wt H t (.eD m)=({{H.cC (H.own t) (cA (H.dZ t) H.sp (m:Int) 1).1 with sp:=(cA (H.dZ t) H.sp (m:Int) 1).2}with bQ:=H.bQ.set t g},none,0,Qi (H.dZ t) H.sp (m:Int) 1):=by
   have:H.bQ.set t g=H.bQ:=Z8 hg;rw[this];simp only[Wt,h0,zz,Hw.cC]
  have e:=ZT (H1:={H.cC (H.own t) (cA (H.dZ t) H.sp (m:Int) 1).1 with sp:=(cA (H.dZ t) H.sp (m:Int) 1).2}) L z;have F:=h.fC hg (g':={g with ph:=none}) (live':=H.live) wi P B.l (by simp[Wd.put]) (λp d _=>.inl d) (λG y=>by
   unfold gI;rw[hph];simp only[jz]) h.lk (λW u=>.inl u) (λs a d=>by cases d) ⟨b.ll,b.lo,b.hb,b.hl,by
    unfold im;exact M⟩
  refine⟨iz.mk' hg b.hl ?_ e F B,.inr (.inl ?_)⟩
  ·show ZW (H.dZ t) H.sp (m:Int) 1<=1000000;rw[C];omega
  ·rw[e,z];exact⟨rfl,h0,rfl,rfl⟩
theorem IW {W:Wd}(h:WI W)(hk:W.bX[k]?=some A){j:Nat}{l:List Int}(hl:∀x∈l,∃p∈W.held,lS k (j:Int) x p=true)(hn:l.Nodup)(hj:j<W.tb.length):QJ A (j:Int) l=0/\WI (W.put k (Zu A (j:Int) l) W.sp (W.held.filter λp=>!dY k (j:Int) l p)):=by
 have ga:=h.ga k A hk;have e:jd W.held k (j:Int) l=true:=Kv.2 ⟨hl,hn⟩;obtain⟨c,w,_,d,_⟩:=ga.cl (k:=j) (by rw[h.tb k A hk];exact hj);have g:QJ A (j:Int) l=0:=by
  rw[HB ga d];refine CV ⟨λx m=>?_,hn⟩;obtain⟨p,u,b⟩:=hl x m;obtain⟨r,i,s,y⟩:=Ks.1 b;obtain⟨_,_,_,a,_⟩:=h.cls u i (by rw[r];exact hk);rw[s]at a;exact(KX d).1 a
 refine⟨g,?_⟩;have:=h.NX hk e;rw[zC g,h.xN e]at this;exact this
theorem FT {xs:List Int}{tb:List bZ}{ars0:List AR}(hH:H.tb=tb)(h:WI ⟨tb,s0,H.bX,held⟩)(hk:k<tb.length)(hxs:∀x∈xs,Um held (k:Int) x)(hn:xs.Nodup)(ha:∀p∈held,XN ars0 (p.addr:Int)=(p.k:Int)):∀j,j<=H.bX.length →
 ∃ars',KN H k (ZE ars0 xs) (List.range j) = {H with bX:=ars'}/\ars'.length=H.bX.length/\WI ⟨tb,s0,ars',held.filter λp=>!(decide (p.k<j)&&(p.cls==(k:Int)&&xs.contains (p.addr:Int)))⟩
 | 0,_=>by
  refine⟨H.bX,rfl,rfl,?_⟩;have:(held.filter λp=>!(decide (p.k<0)&&(p.cls==(k:Int)&&xs.contains (p.addr:Int))))=held:=pB.2 λp _=>by simp
  rw[this];exact h
 | j+1,hj=>by
  obtain⟨ars',e,y,s⟩:=FT hH h hk hxs hn ha j O;rw[KZ,e];have r:ars'[j]?=some (ars'[j]' O):=cU _;simp only[r];have b:∀{p:Pc},p∈held->p.k=j->((p.addr:Int)∈ZE ars0 xs j↔(p.addr:Int)∈xs):=λ{p} d a=>by
   unfold ZE;rw[zI,ha p d,a];simp
  have g:((held.filter λp=>!(decide (p.k<j)&&(p.cls==(k:Int)&&xs.contains (p.addr:Int)))).filter λp=>!dY j (k:Int) (ZE ars0 xs j) p)=held.filter λp=>!(decide (p.k<j+1)&&(p.cls==(k:Int)&&xs.contains (p.addr:Int))):=by
   rw[y5];apply vO;intro p d;have e1:dY j (k:Int) (ZE ars0 xs j) p=(p.k==j&&(p.cls==(k:Int)&&xs.contains (p.addr:Int))):=by
    unfold dY;by_cases a:p.k=j
    ·have:=b d a;have e2:(ZE ars0 xs j).contains (p.addr:Int)=xs.contains (p.addr:Int):=by
      rw[lZ,yr,yr];exact this
     rw[e2]
    ·have:(p.k==j)=false:=by simpa using a
     rw[this];rfl
   rw[e1];have B:decide (p.k<j+1)=(decide (p.k<j)||p.k==j):=by
    rw[lZ];simp;omega
   rw[B];cases p.k==j<;>cases decide (p.k<j)<;>cases(p.cls==(k:Int)&&xs.contains (p.addr:Int))<;>rfl
  by_cases d:ZE ars0 xs j=[]
  ·rw[zC d];refine⟨ars',rfl,y,?_⟩;rw[←g,d];have:∀p:Pc,(!dY j (k:Int) [] p)=true:=λp=>by simp[dY]
   rw[pB.2 λp _=>this p];exact s
  ·rw[zB d];refine⟨ars'.set j (Zu (ars'[j]' O) (k:Int) (ZE ars0 xs j)),by simp[Hw.cC],by simp[y],?_⟩;rw[←g];refine(IW s r (j:=k) (l:=ZE ars0 xs j) (λx w=>?_) (hn.sublist sX) hk).2;unfold ZE at w;obtain⟨m,i⟩:=zI.1 w;obtain⟨p,d,A,z,u⟩:=hxs x m;have a:p.k=j:=by
    have:=ha p d;rw[u]at this;rw[this]at i;have:(p.k:Int)=(j:Int):=by simpa using i
    omega
   exact⟨p,zI.2 ⟨d,by simp[a]⟩,Ks.2 ⟨a,z,u,A⟩⟩
theorem Ra {tb:List bZ}(hH:H.tb=tb)(h:WI ⟨tb,s0,H.bX,held⟩){own:Nat}(hown:own<H.bX.length)(hk:k<tb.length){xs:List Int}(hxs:∀x∈xs,Um held (k:Int) x)(hn:xs.Nodup) :
 ∃ars' held',Hx H own k xs = {H with bX:=ars'}/\ars'.length=H.bX.length/\WI ⟨tb,s0,ars',held'⟩/\(∀c x,Um held' c x↔Um held c x/\¬(c=(k:Int)/\x∈xs))/\∀p∈held',p.eJ=false->p∈held:=by
 have m:H.bX[own]?=some H.bX[own]:=cU hown;have w:∀p∈held,XN H.bX (p.addr:Int)=(p.k:Int):=λp a=>h.owner a (zD _) (by have:=(h.size_pos a).1;omega);have all:∃ars' held',KN H k (ZE H.bX xs) (List.range H.bX.length) = {H with bX:=ars'}/\ars'.length=H.bX.length/\WI ⟨tb,s0,ars',held'⟩/\(∀c x,Um held' c x↔Um held c x/\¬(c=(k:Int)/\x∈xs))/\∀p∈held',p.eJ=false->p∈held:=by
  obtain⟨ars',e,u,j⟩:=FT hH h hk hxs hn w H.bX.length (zD _);refine⟨ars',_,e,u,j,λc x=>?_,λp a _=>(zI.1 a).1⟩;constructor
  ·rintro⟨p,a,i,g,d⟩;obtain⟨a,hf⟩:=zI.1 a;refine⟨⟨p,a,i,g,d⟩,?_⟩;rintro⟨rfl,b⟩;obtain⟨B,A,_⟩:=h.hf p a;have r:p.k<H.bX.length:=(cV.1 A).1;rw[g,d]at hf;simp[r,b]at hf
  ·rintro⟨⟨p,a,i,g,d⟩,hno⟩;refine⟨p,zI.2 ⟨a,?_⟩,i,g,d⟩;rw[g,d];by_cases hc:c=(k:Int)
   ·have:x∉xs:=λb=>hno ⟨hc,b⟩;simp[this]
   ·simp[hc]
 unfold Hx;rw[m];simp only;by_cases hcond:(ZE H.bX xs own).length=xs.length/\KQ H.bX[own] (k:Int) xs=true
 ·rw[zC hcond];have s:∀x∈xs,XN H.bX x=(own:Int):=by
   have i:ZE H.bX xs own=xs:=by
    unfold ZE at hcond ⊢;exact List.filter_sublist.eq_of_length hcond.1
   intro x b;rw[←i]at b;unfold ZE at b;simpa using(zI.1 b).2
  have y:jd held own (k:Int) xs=true:=Kv.2 ⟨λx b=>by
   obtain⟨p,a,i,g,d⟩:=hxs x b;have C:=w p a;rw[d,s x b]at C;exact⟨p,a,Ks.2 ⟨O,g,d,i⟩⟩,hn⟩
  have j:=h.RU m y;rw[zC hcond.2]at j;exact⟨_,_,rfl,by simp[Hw.cC],j,Jp h y,LK⟩
 ·rw[zB hcond];have e:(if(ZE H.bX xs own).length=xs.length then H.cC own (QV H.bX[own] (k:Int) xs)else H)=H:=by
   split
   ·rename_i u;have z:KQ H.bX[own] (k:Int) xs=false:=by
     apply nf.2;intro b;exact hcond ⟨u,b⟩
    have:QV H.bX[own] (k:Int) xs=H.bX[own]:=by unfold QV;rw[z];rfl
    rw[this];exact Dt m
   ·rfl
  rw[e];exact all
def k8:Ph->Prop
 | .find _=>True
 | .put _ _=>True
 | .back=>True
 | .dC _ _=>True
 | .drain=>True
 | _=>False
def pt (g:Th):Ph->Nat
 | .find _=>101
 | .put _ _=>100
 | .drain=>100
 | .back=>g.bP.length
 | _=>0
def nc (H:Hw)(t:Nat)(g:Th)(p:Ph):Prop:=(Wt H t p).2.2.1=0 ∧
 ((∃p' g',(Wt H t p).2.1=some p'/\k8 p'/\(∀x,p'≠.find x)/\(Qt H t p).bQ[t]?=some g'/\pt g' p'<pt g p)\/(Wt H t p).2.1=none) ∧
 ((∀x,p≠.find x)->(Wt H t p).2.2.2=0/\(Qt H t p).live=H.live) ∧
 (∀x,p=.find x->(bW H.live x=none->(Wt H t p).2.1=none/\(Wt H t p).2.2.2≠0/\(Qt H t p).live=H.live)/\(∀b,bW H.live x=some b->(Wt H t p).2.2.2=0/\(Qt H t p).live=cS H.live x))
theorem Al (hg:H.bQ[t]?=some g):jX H t=if g.bP=[]then none else some .back:=by unfold jX;rw[hg]
theorem MD (h:HI H held s0)(hg:H.bQ[t]?=some g){x:Int}(hph:g.ph=some (.find x)):iz H t (.find x)/\nc H t g (.find x):=by
 have K:=(cV.1 hg).1;have d:=h.th g (h.mem hg);obtain⟨P,C⟩:g.bP=[]/\iE x:=by have:=d.ph;unfold im at this;rw[hph]at this;exact this
 have Q:∀A∈H.bX,iG A:=λA R=>by
  obtain⟨j,hj⟩:=zQ R;exact(h.wi.ga j A hj).oC
 cases hm:bW H.live x with
 | none=>
  have w:Wt H t (.find x)=({H with bQ:=H.bQ.set t g},none,0,lB H x):=by
   have:H.bQ.set t g=H.bQ:=Z8 hg;rw[this];simp only[Wt,UK,hm]
  have e:=ZT K w;have E:=h.ky hg (g':={g with ph:=none}) (live':=H.live) (λJ x=>by
   unfold gI;rw[hph];simp only[jz]) h.lk (λZ D=>.inl D) (λs a N=>by cases N) ⟨d.ll,d.lo,d.hb,d.hl,by
    unfold im;exact P⟩
  refine⟨iz.mk' hg d.hl ⟨C,λ_=>Q,λb hb=>by rw[hm]at hb;cases hb⟩ e E (KS.refl _),?_⟩;unfold nc;rw[e,w];refine⟨rfl,.inr rfl,λi=>(i x rfl).elim,λy m=>?_⟩;cases m;refine⟨λ_=>⟨rfl,?_,rfl⟩,(λb hb=>by rw[hm]at hb;cases hb)⟩;show lB H x≠0;unfold lB
  repeat' split
  all_goals simp
 | some b=>
  have U:=Vg hm;obtain⟨_,p,N,h1,S,Y,h4,X⟩:=h.lv _ U;simp only at S Y h4 X;have V:0<=x:=by omega
  obtain⟨A,R,hd⟩:=h.wi.hf p N;have W:uw H t (.find x):=⟨C,(λi=>by rw[hm]at i;cases i),λ_ _=>V⟩;rcases hd with⟨c1,_,r,hr,c2,c3⟩|⟨j,c,c1,c2,c3,_⟩
  ·have F:b.2.2.1 = -1:=by rw[←S,c1]
   have w:Wt H t (.find x)=({{H with live:=cS H.live x}with bQ:=H.bQ.set t g},some (.dC (x/256) b.2.2.2),0,0):=by
    have:H.bQ.set t g=H.bQ:=Z8 hg;rw[this];simp only[Wt,UK,hm];rw[zC O]
   have e:=ZT (H1:={H with live:=cS H.live x}) K w;have u:x/256*256=x:=by omega
   have E:=h.ky hg (g':={g with ph:=some (.dC (x/256) b.2.2.2)}) (live':=cS H.live x) (λJ y=>by
    have z:=yX h.lk hm J y;rw[F]at z;unfold gI;rw[hph];simp only[jz,u];by_cases m:x=y
    ·subst m;rw[Ab]at z;by_cases hk : -1=J
     ·rw[zC hk]at z;rw[zC ⟨hk.symm,rfl⟩];omega
     ·rw[zB hk]at z;rw[zB (λC=>hk C.1.symm)];omega
    ·have:[x].count y=0:=xr.2 aE;rw[this]at z;rw[zB (λC=>m C.2.symm)];split at z<;>omega)
    (Go.Vc.jf h.lk) (λZ D=>.inl (Gx.1 D).1) (λs a B=>by
     cases B;exact⟨p,N,h1,c1,by rw[u];exact Y,X⟩) ⟨d.ll,d.lo,d.hb,d.hl,by
      unfold im;exact P⟩
   refine⟨iz.mk' hg d.hl W e E (KS.refl _),?_⟩;unfold nc;rw[e,w];refine⟨rfl,.inl ⟨_,_,rfl,trivial,(λy m=>by cases m),zM K,by simp[pt]⟩,λi=>(i x rfl).elim,λy m=>?_⟩;cases m;exact⟨(λi=>by rw[hm]at i;cases i),λ_ _=>⟨rfl,rfl⟩⟩
  ·have G:b.2.2.1=(j:Int):=by rw[←S,c1]
   have M:j<H.tb.length:=by
    rw[h.wi.tb _ _ R]at c2;exact(cV.1 c2).1
   have w:Wt H t (.find x)=({{H with live:=cS H.live x}with bQ:=H.bQ.set t {g with bP:=[(j,[x])]}},some (.put j x),0,0):=by
    simp only[Wt,UK,hm];rw[zB O,G,dE];unfold QD;rw[Zs (g:=g) (by exact hg),P];rfl
   have e:=ZT (H1:={H with live:=cS H.live x}) K w;have E:=h.ky hg (g':={g with bP:=[(j,[x])],ph:=some (.put j x)}) (live':=cS H.live x) (λJ y=>by
    have z:=yX h.lk hm J y;rw[G]at z;unfold gI;rw[hph,P];simp only[jz,Kw,Vo];omega)
    (Go.Vc.jf h.lk) (λZ D=>.inl (Gx.1 D).1) (λs a B=>by cases B) ⟨d.ll,d.lo,λb' L=>by
     simp only[zN]at L;subst L;exact⟨M,by simp,by simp⟩,by simp,by
     unfold im;exact⟨rfl,M⟩⟩
   refine⟨iz.mk' hg d.hl W e E (KS.refl _),?_⟩;unfold nc;rw[e,w];refine⟨rfl,.inl ⟨_,_,rfl,trivial,(λy m=>by cases m),zM K,by simp[pt]⟩,λi=>(i x rfl).elim,λy m=>?_⟩;cases m;exact⟨(λi=>by rw[hm]at i;cases i),λ_ _=>⟨rfl,rfl⟩⟩
theorem Cg {f:bZ->Li->List Int×Li}{tb:List bZ}{ls:List Li}{b:Bt}(h:b∈Q0 f tb ls):b.1<tb.length/\b.2≠[]/\∃c∈tb,∃l∈ls,b.2=(f c l).1:=by
 unfold Q0 at h;obtain⟨k,d,a⟩:=wW.1 h;split at a
 ·rename_i c l hc hl;split at a
  ·cases a
  ·cases a;exact⟨zg.1 d,by assumption,c,zG hc,l,zG hl,rfl⟩
 ·cases a
theorem FC {f:bZ->Li->List Int×Li}{tb:List bZ}{ls:List Li}{l':Li}(h:l'∈QT f tb ls):∃c∈tb,∃l∈ls,l'=(f c l).2:=by
 unfold QT at h;obtain⟨i,a⟩:=zQ h;rw[Bm]at a;split at a
 ·rename_i c l hc hl;cases a;exact⟨c,zG hc,l,zG hl,rfl⟩
 ·cases a
theorem CO {f:bZ->Li->List Int×Li}{tb:List bZ}{ls:List Li}(h:ls.length=tb.length):(QT f tb ls).length=tb.length:=by
 unfold QT;rw[List.length_zipWith];omega
theorem EP (c:bZ)(l:Li):(KE c l).2.os.length<=l.os.length/\(KE c l).1.length<=l.os.length:=by
 simp only[KE,gp,jZ,zZ];omega
theorem Fz (c:bZ)(l:Li):(ZG c l).2.os.length<=l.os.length/\(ZG c l).1.length<=l.os.length:=by
 simp only[ZG,gp,jZ,zZ];omega
theorem OX (h:HI H held s0)(hg:H.bQ[t]?=some g)(hph:g.ph=some .drain):iz H t .drain/\nc H t g .drain:=by
 have m:=(cV.1 hg).1;have d:=h.th g (h.mem hg);have D:g.bP=[]:=by have:=d.ph;unfold im at this;rw[hph]at this;exact this
 have E:=h.qg;have G:=Cb ZG H.tb g.ls;have u:Wt H t .drain=({H with bQ:=H.bQ.set t {g with ls:=QT ZG H.tb g.ls,bP:=Q0 ZG H.tb g.ls}},(if Q0 ZG H.tb g.ls=[]then none else some .back),0,0):=by
  simp only[Wt,Zs hg];rw[Al (g:={g with ls:=QT ZG H.tb g.ls,bP:=Q0 ZG H.tb g.ls}) (by simp[m])]
 have e:=ZT m u;have z:=h.ky hg (g':={ls:=QT ZG H.tb g.ls,bP:=Q0 ZG H.tb g.ls,ph:=if Q0 ZG H.tb g.ls=[]then none else some .back}) (live':=H.live) (λr x=>by
  have L:=CM (f:=ZG) Sv d.ll r x;unfold gI;rw[hph,D];have:jz (if Q0 ZG H.tb g.ls=[]then none else some Ph.back) r x=0:=by split<;>rfl
  simp only[this,Vo];simp only[jz];omega) h.lk (λM w=>.inl w) (λs a p=>by
   simp only at p;split at p<;>cases p) ⟨CO d.ll,λl hl=>by
   obtain⟨c,_,j,i,rfl⟩:=FC hl;have:=d.lo j i;have:=Fz c j;exact⟨Pz (d.lo j i).1,O⟩,λb A=>by
   obtain⟨C,B,c,_,j,i,K⟩:=Cg A;have:=d.lo j i;have:=Fz c j;exact⟨C,B,by rw[K];omega⟩,by simp only;omega,by
   unfold im;by_cases ho:Q0 ZG H.tb g.ls=[]
   ·rw[zC ho];exact ho
   ·rw[zB ho];exact ho⟩
 refine⟨iz.mk' hg d.hl trivial e z (KS.refl _),?_⟩;unfold nc;rw[e,u];refine⟨rfl,?_,λ_=>⟨rfl,rfl⟩,λx J=>by cases J⟩;by_cases ho:Q0 ZG H.tb g.ls=[]
 ·exact .inr (by simp only;rw[zC ho])
 ·exact .inl ⟨.back,_,by simp only;rw[zB ho],trivial,(λy F=>by cases F),zM m,by simp only[pt];omega⟩
theorem JF (h:HI H held s0)(hg:H.bQ[t]?=some g){s a:Int}(hph:g.ph=some (.dC s a)):iz H t (.dC s a)/\nc H t g (.dC s a):=by
 have S:=(cV.1 hg).1;have b:=h.th g (h.mem hg);have U:g.bP=[]:=by have:=b.ph;unfold im at this;rw[hph]at this;exact this
 obtain⟨p,C,Y,P,Z,X⟩:=h.gv g (h.mem hg) s a hph;obtain⟨A,m,_⟩:=h.wi.hf p C;have y:H.bX[p.k]?=some A:=m;have R:=(cV.1 y).1;obtain⟨_,r,G,W,c3⟩:=h.wi.run C P m;have ga:=h.wi.ga _ _ m;have d:s=(r.1:Int):=by omega
 have Q:KH A s=0:=by
  unfold KH;rw[zC];unfold pL;rw[y7];exact⟨r,G,by simp[d]⟩
 have F:jd held p.k (-1) [s*256]=true:=by rw[d];exact h.wi.mW m G
 have wi:=h.wi.wI m s;rw[zC Q,h.wi.xN F]at wi;have w:a.toNat=p.k:=by omega
 have K:Wt H t (.dC s a)=({H.cC p.k (Qr A s)with bQ:=H.bQ.set t g},none,0,0):=by
  have:H.bQ.set t g=H.bQ:=Z8 hg;rw[this];simp only[Wt,w,y,Hw.cC]
 have e:=ZT (H1:=H.cC p.k (Qr A s)) S K;have M:=h.fC hg (g':={g with ph:=none}) (live':=H.live) wi h.mH rfl (by simp[Wd.put]) (λq E _=>.inl (zI.1 E).1) (λu x=>by
  have i:=FK (held':=held.filter λD=>!dY p.k (-1) [s*256] D) (l:=[s*256]) (cl:=-1) aA (N2 F) (Ir h.wi F) u x;have i:kT held u x=kT (held.filter λD=>!dY p.k (-1) [s*256] D) u x+(if -1=u then[s*256].count x else 0):=i
  unfold gI;rw[hph];simp only[jz];by_cases hy:s*256=x
  ·subst hy;rw[Ab]at i;by_cases hk : -1=u
   ·rw[zC hk]at i;rw[zC ⟨hk.symm,rfl⟩];omega
   ·rw[zB hk]at i;rw[zB (λz=>hk z.1.symm)];omega
  ·have:[s*256].count x=0:=xr.2 aE;rw[this]at i;rw[zB (λz=>hy z.2.symm)];split at i<;>omega) h.lk (λe' L=>.inl L) (λs a C=>by cases C) ⟨b.ll,b.lo,b.hb,b.hl,by
   unfold im;exact U⟩
 refine⟨iz.mk' hg b.hl ⟨O,O,λB V q E=>?_⟩ e M (KS.refl _),?_⟩
 ·obtain⟨j,N⟩:=zQ V;have J:=h.wi.ga j B N;have:=J.fit E;have:=J.pg.n2;omega
 ·unfold nc;rw[e,K];exact⟨rfl,.inr rfl,λ_=>⟨rfl,rfl⟩,λx z=>by cases z⟩
theorem P0 (h:HI H held s0)(hg:H.bQ[t]?=some g)(hph:g.ph=some .back):iz H t .back/\nc H t g .back:=by
 have G:=(cV.1 hg).1;have d:=h.th g (h.mem hg);have R:g.bP≠[]:=by have:=d.ph;unfold im at this;rw[hph]at this;exact this
 have B:=HY hg;cases hhd:g.bP with
 | nil=>exact(R hhd).elim
 | cons b r=>
  obtain⟨k,z⟩:=b;obtain⟨L,A,D⟩:=d.hb (k,z) (by rw[hhd];simp);simp only at L A D;have j:∀x,z.count x<=gI g (k:Int) x:=λx=>by
   unfold gI;rw[hhd,Kw,zC rfl];simp only;omega
  have i:∀x∈z,Um held (k:Int) x:=λx u=>h.pU (h.mem hg) (zh (Aj.2 u) (j x));have C:z.Nodup:=yF.2 λx=>by
   have P:=j x;have V:=h.oP (h.mem hg) (k:Int) x;have W:=FH held (k:Int) x;omega
  obtain⟨m,E,Q,F,wi,um,sub⟩:=Ra (H:={H with bQ:=H.bQ.set t {g with bP:=r}}) (tb:=H.tb) rfl h.wi (h.jL t) L i C;have K:Wt H t .back=({{H with bX:=m}with bQ:=H.bQ.set t {g with bP:=r}},(if r=[]then none else some .back),0,0):=by
   simp only[Wt,B,hhd,Zs hg,Q];rw[Al (g:={g with bP:=r}) (by simp[G])]
  have e:=ZT (H1:={H with bX:=m}) G K;have N:=h.fC hg (g':={g with bP:=r,ph:=if r=[]then none else some .back}) (live':=H.live) wi h.mH rfl F (λp w U=>.inl (sub p w U)) (λJ x=>by
   have P:=FK C i um J x;unfold gI;rw[hph,hhd,Kw];have:jz (if r=[]then none else some Ph.back) J x=0:=by split<;>rfl
   simp only[this];simp only[jz];omega) h.lk (λX M=>.inl M) (λs a w=>by
    simp only at w;split at w<;>cases w) ⟨d.ll,d.lo,λb hb=>d.hb b (by rw[hhd];exact nB _ hb),by have:=d.hl;rw[hhd]at this;simp at this ⊢;omega,by
    unfold im;by_cases ho:r=[]
    ·rw[zC ho];exact ho
    ·rw[zB ho];exact ho⟩
  refine⟨iz.mk' hg d.hl ⟨k,z,r,by rw[B];exact hhd,λx u=>⟨(h.i63 (i x u)).1,(h.i63 (i x u)).2.2⟩,O⟩ e N (KS.refl _),?_⟩;unfold nc;rw[e,K];refine⟨rfl,?_,λ_=>⟨rfl,rfl⟩,λx u=>by cases u⟩;by_cases ho:r=[]
  ·exact .inr (by simp only;rw[zC ho])
  ·exact .inl ⟨.back,_,by simp only;rw[zB ho],trivial,(λy S=>by cases S),zM G,by simp only[pt];rw[hhd];simp⟩
theorem M0 (h:HI H held s0)(hg:H.bQ[t]?=some g){x:Int}(hph:g.ph=some (.put k x)):iz H t (.put k x)/\nc H t g (.put k x):=by
 have B:=(cV.1 hg).1;have r:=h.th g (h.mem hg);obtain⟨K,J⟩:g.bP=[(k,[x])]/\k<H.tb.length:=by have:=r.ph;unfold im at this;rw[hph]at this;exact this
 obtain⟨c,hc,F⟩:=h.cls J;obtain⟨l,hl,M,C,hlm⟩:=r.li J;have G:=HY hg;have h40:=h.qg;have N:=I8 (x:=x) F C;have aa:=LM c x l O;have Z:(dK c x l).1.length<=129/\(dK c x l).2.os.length<=128:=by
  have hlim:=C.lim;have z:(eA [x] l).os=l.os++[x]:=by unfold eA;rw[zB aE]
  have S:(mo c (eA [x] l)).os=l.os++[x]:=by rw[←z];unfold mo;split<;>rfl
  unfold bZ.ok at F;unfold dK;rw[zB O];split
  ·rw[z];simp;omega
  ·simp only[gp,S,zZ,jZ,zO,Ax];omega
 obtain⟨U,Y⟩:=r.gO (k:=k) N Z.2;have V:∃hs:List Bt,(if(dK c x l).1=[]then[]else[(k,(dK c x l).1)])=hs:=⟨_,rfl⟩
 obtain⟨i,j⟩:=V;have hs2l:i.length<=1:=by rw[←j];split<;>simp
 have u:∀b∈i,b.1<H.tb.length/\b.2≠[]/\b.2.length<=256:=λb m=>by
  rw[←j]at m;split at m
  ·simp at m
  ·simp only[zN]at m;subst m;exact⟨J,by assumption,by simp only;omega⟩
 have E:∀d y,lQ i d y=if(k:Int)=d then(dK c x l).1.count y else 0:=λd y=>by
  rw[←j];split
  ·rename_i hn;rw[hn,Vo];simp
  ·simp only[Kw,Vo,j7]
 let g3:Th:={g with ls:=g.ls.set k (dK c x l).2,bP:=i}
 let g4:Th:=if H.cf.dA<QQ H.tb g3.ls then{g3 with ls:=QT KE H.tb g3.ls,bP:=g3.bP++Q0 KE H.tb g3.ls}else g3
 have P:ir H t k x = {H with bQ:=H.bQ.set t g4}:=by
  have e2:(if(dK c x l).1=[]then H.dV t λh=>h.gO k (dK c x l).2 else QD (H.dV t λh=>h.gO k (dK c x l).2) t k (dK c x l).1) = {H with bQ:=H.bQ.set t {g with ls:=g.ls.set k (dK c x l).2,bP:=(k,[x])::i}}:=by
   rw[←j];split
   ·rw[Zs hg,←K];rfl
   ·rw[Zs hg];unfold QD;rw[Zs (g:=g.gO k (dK c x l).2) (by simp[B])];simp only[ns,Th.gO,K];rfl
  have e3:({H with bQ:=H.bQ.set t {g with ls:=g.ls.set k (dK c x l).2,bP:=(k,[x])::i}}:Hw).dV t (λh=>{h with bP:=h.bP.drop 1}) = {H with bQ:=H.bQ.set t g3}:=by
   rw[Zs (g:={g with ls:=g.ls.set k (dK c x l).2,bP:=(k,[x])::i}) (by simp[B])];simp only[ns,xL,List.drop_zero];rfl
  have w:({H with bQ:=H.bQ.set t g3}:Hw).bQ[t]?=some g3:=by simp[B]
  unfold ir;simp only[VW hc,G,M,e2,e3,HY w,Zs w,ns];show(if H.cf.dA<QQ H.tb g3.ls then _ else _)=_
  simp only[g4];split<;>rfl
 have hg4:g4.ph=g.ph:=by simp only[g4];split<;>rfl
 have X:∀d y,lp g4.ls d y+lQ g4.bP d y=lp g.ls d y+lQ g.bP d y:=λd y=>by
  have Q:=Gj hl (dK c x l).2 d y;have h2:=aa y;have h3:lp g3.ls d y+lQ g3.bP d y=lp g.ls d y+lQ g.bP d y:=by
   simp only[g3];rw[E,K,Kw,Vo];by_cases hkk:(k:Int)=d
   ·simp only[hkk,zR]at Q ⊢;omega
   ·simp only[hkk,zz]at Q ⊢;omega
  simp only[g4];split
  ·have h4:=CM (f:=KE) MT (tb:=H.tb) (ls:=g3.ls) U d y;simp only[Fk];omega
  ·exact h3
 have p:g4.ls.length=H.tb.length/\(∀l∈g4.ls,fL l/\l.os.length<=128)/\(∀b∈g4.bP,b.1<H.tb.length/\b.2≠[]/\b.2.length<=256)/\g4.bP.length<=41:=by
  have hsl:=Cb KE H.tb g3.ls;simp only[g4];split
  ·refine⟨CO U,λl hl=>?_,λb m=>?_,by simp only[zO,g3]at *;omega⟩
   ·obtain⟨L,R,D,A,rfl⟩:=FC hl;have h5:=Y D A;have:=EP L D;exact⟨CJ (h.ok L R) h5.1,O⟩
   ·rcases zL.1 m with m|m
    ·exact u b m
    ·obtain⟨b1,b2,L,_,D,A,b3⟩:=Cg m;have h5:=Y D A;have:=EP L D;exact⟨b1,b2,by rw[b3];omega⟩
  ·exact⟨U,Y,u,by simp only[g3];omega⟩
 have hs:Wt H t (.put k x)=({H with bQ:=H.bQ.set t g4},(if g4.bP=[]then none else some .back),0,0):=by
  show(ir H t k x,jX (ir H t k x) t,0,0)=_;rw[P,Al (g:=g4) (by simp[B])]
 have e:=ZT B hs;have hi:=h.ky hg (g':={g4 with ph:=if g4.bP=[]then none else some .back}) (live':=H.live) (λd y=>by
  have Q:=X d y;unfold gI;rw[hph];have:jz (if g4.bP=[]then none else some Ph.back) d y=0:=by split<;>rfl
  simp only[this];simp only[jz];omega) h.lk (λe' he=>.inl he) (λs a W=>by
   simp only at W;split at W<;>cases W) ⟨p.1,p.2.1,p.2.2.1,p.2.2.2,by
   unfold im;by_cases ho:g4.bP=[]
   ·simp only[ho,zR]
   ·simp only[ho,zz];exact ho⟩
 refine⟨iz.mk' hg r.hl ⟨J,by rw[G,K];simp⟩ e hi (KS.refl _),?_⟩;unfold nc;rw[e,hs];refine⟨rfl,?_,λ_=>⟨rfl,rfl⟩,λx hx=>by cases hx⟩;by_cases ho:g4.bP=[]
 ·exact .inr (by simp only;rw[zC ho])
 ·exact .inl ⟨.back,_,by simp only;rw[zB ho],trivial,(λy hy=>by cases hy),zM B,by simp only[pt];have:=p.2.2.2;omega⟩
end Go.Ar
namespace Go.Ar
open Go Go.Vc Go.Proofs
open Go.Bu (eX K0 UG)
variable {U u w w':Hp}{F B P Q:Rg}{L:dJ}{H H':Hw}{t n:Nat}{g:Th}
def xB (size:Int):Int:=(size+255)/256*256
def G0 (tb:List bZ)(size align:Int):Int×Int:=
 if size<=16384/\Uz size align=true then(match gN tb size align with
  | some k=>((tb.getD k ⟨8,1,1⟩).size:Int)
  | none=>xB size,0)else(0,1)
theorem J0 {a:Int}(h1:1<=a)(h2:a<=256):(bits .and .i64 a (a-1) != 0) = !eX a:=by
 obtain⟨a,rfl⟩:=zc (show 0<=a by omega);rw[show(a:Int)-1=((a-1:Nat):Int) by omega,Go.Bu.iQ O O,K0,←UG O O];simp only[bne,Bool.not_inj_iff];rw[lZ];simp only[zT];omega
def QX (sp:Sp)(x:Int):Int:=if eR sp x=0 then sp.wd (x.toNat/8)else 0
theorem DJ (h:HH U F L H)(x:Int)(hx:x<=9223372036854775807){R:Int->Int->Hp->Prop}(hR:∀σ',bK U σ'->R (QX H.sp x) (eR H.sp x) σ'):YC.c (aW L.p) x U R:=Rb h x hx hR
end Go.Ar
namespace Go.Ar
open Go Go.Vc Go.Proofs
variable {U u w w':Hp}{F B P Q:Rg}{L:dJ}{H H':Hw}{t n:Nat}{g:Th}
def Ki (H:Hw)(x:Int):Option Int:=(bW H.live x).map λb=>b.2.1
theorem DS {tb:List bZ}{size align:Int}{k:Nat}(h:gN tb size align=some k):k<tb.length:=(List.findIdx?_eq_some_iff_findIdx_eq.1 h).1
theorem UH (h:HH U F L H)(x:Int){R:Int->Int->Hp->Prop}(hR:∀σ',bK U σ'->R ((Ki H x).getD 0) (if(Ki H x).isSome then 0 else 8) σ'):Xf.c (aW L.p) x U R:=by
 refine IE h x λσ' e=>?_;have:=hR σ' e;unfold Ki at this;cases hm:bW H.live x with
 | none=>rw[hm]at this;exact this
 | some b=>rw[hm]at this;exact this
end Go.Ar
namespace Go.Ar
open Go.Vc (bW dB cS)
variable {H H':Hw}{held:List Pc}{s0:Sp}{t k j:Nat}{g:Th}{A:AR}{c:bZ}
theorem Kz (f:Th->Th)(hj:j≠t):(H.dV t f).bQ[j]?=H.bQ[j]? := by
 simp[Hw.dV,sy,Ne.symm hj]
theorem PZ (x:Int)(hj:j≠t):(ir H t k x).bQ[j]?=H.bQ[j]? := by
 unfold ir QD;simp only;split<;>split<;>simp only[Kz _ hj]
theorem PV (p:Ph)(hj:j≠t):(Wt H t p).1.bQ[j]?=H.bQ[j]? := by
 cases p with
 | take k=>simp only[Wt];split<;>simp only[Vp,Kz _ hj]
 | cH k w=>
  simp only[Wt];split
  ·split
   ·unfold QD;rw[Kz _ hj];rfl
   ·rfl
  ·rfl
 | cJ k w=>
  simp only[Wt];split
  ·rfl
  ·unfold QD;rw[Kz _ hj];rfl
 | grow k w=>simp only[Wt];split<;>rfl
 | fill=>simp only[Wt];split<;>simp only[Vp,Kz _ hj]
 | eD m=>simp only[Wt];split<;>rfl
 | find x=>
  simp only[Wt,UK];split
  ·rfl
  ·split
   ·rfl
   ·unfold QD;rw[Kz _ hj]
 | put k x=>exact PZ x hj
 | back=>
  simp only[Wt];split
  ·rw[G5,Kz _ hj]
  ·rfl
 | dC s a=>simp only[Wt];split<;>rfl
 | drain=>simp only[Wt,Kz _ hj]
theorem Ud (p:Ph)(hj:j≠t):(Qt H t p).bQ[j]?=H.bQ[j]? := by
 unfold Qt eO;rw[Kz _ hj,PV p hj]
def fH (H:Hw)(j:Nat):Option Ph:=(H.bQ[j]?).bind (·.ph)
def vU (H H':Hw)(t:Nat):Prop:=fH H' t=none/\∀j,j≠t->fH H' j=fH H j
theorem AE (h:HI H held s0)(hg:H.bQ[t]?=some g){p:Ph}(hp:g.ph=some p)(hf:¬k8 p):∃cl sz,Rq H.tb g p cl sz:=by
 have b:=(h.th g (h.mem hg)).ph;unfold im at b;rw[hp]at b;cases p with
 | take k=>obtain⟨c,d,_⟩:=h.cls b.2;exact⟨_,_,rfl,c,d,rfl⟩
 | cH k w=>obtain⟨c,d,_⟩:=h.cls b.2.1;exact⟨_,_,rfl,c,d,rfl⟩
 | cJ k w=>obtain⟨c,d,_⟩:=h.cls b.2.1;exact⟨_,_,rfl,c,d,rfl⟩
 | grow k w=>obtain⟨c,d,_⟩:=h.cls b.2.1;exact⟨_,_,rfl,c,d,rfl⟩
 | fill=>
  obtain⟨k,x,j,i,e,_⟩:=b;obtain⟨c,d,_⟩:=h.cls e;exact⟨_,_,k,_,[],c,i,rfl,d,rfl⟩
 | eD m=>exact⟨_,_,rfl,rfl⟩
 | find x=>exact(hf trivial).elim
 | put k x=>exact(hf trivial).elim
 | back=>exact(hf trivial).elim
 | dC s a=>exact(hf trivial).elim
 | drain=>exact(hf trivial).elim
theorem qN (h:HI H held s0)(hg:H.bQ[t]?=some g){p:Ph}(hp:g.ph=some p){cl sz:Int}(hr:Rq H.tb g p cl sz):iz H t p/\sk H t p cl sz:=by
 cases p with
 | take k=>exact L3 h hg hp hr
 | cH k w=>exact Oj h hg hp hr
 | cJ k w=>exact Of h hg hp hr
 | grow k w=>exact Ld h hg hp hr
 | fill=>exact MO h hg hp hr
 | eD m=>exact Nh h hg hp hr
 | find x=>exact hr.elim
 | put k x=>exact hr.elim
 | back=>exact hr.elim
 | dC s a=>exact hr.elim
 | drain=>exact hr.elim
theorem qf (h:HI H held s0)(hg:H.bQ[t]?=some g){p:Ph}(hp:g.ph=some p)(hf:k8 p):iz H t p/\nc H t g p:=by
 cases p with
 | take k=>exact hf.elim
 | cH k w=>exact hf.elim
 | cJ k w=>exact hf.elim
 | grow k w=>exact hf.elim
 | fill=>exact hf.elim
 | eD m=>exact hf.elim
 | find x=>exact MD h hg hp
 | put k x=>exact M0 h hg hp
 | back=>exact P0 h hg hp
 | dC s a=>exact JF h hg hp
 | drain=>exact OX h hg hp
open Classical in
theorem HI.Ih (h:HI H held s0)(hg:H.bQ[t]?=some g){p:Ph}(hp:g.ph=some p):iz H t p:=by
 by_cases hf:k8 p
 ·exact(qf h hg hp hf).1
 ·obtain⟨cl,b,a⟩:=AE h hg hp hf;exact(qN h hg hp a).1
theorem U7 {p:Ph}(ht:t<H.bQ.length):∃g',(Qt H t p).bQ[t]?=some g'/\g'.ph=(Wt H t p).2.1:=DE ht
theorem E7 {cl sz:Int}:∀(n:Nat) {H:Hw} {held:List Pc} {s0:Sp} {g:Th} {p:Ph},HI H held s0->H.bQ[t]?=some g->g.ph=some p->Rq H.tb g p cl sz->oA H t p<=n →
 ∃m H' a e,iC m H t p H' a e/\(∃held s0,HI H' held s0)/\KS H.sp H'.sp/\vU H H' t/\((e≠0/\a=0/\H'.live=H.live)\/(e=0/\bW H.live a=none/\H'.live=dB H.live a (a,sz,cl,XN H'.bX a)))
 | n,H,held,s0,g,p,h,hg,hp,hr,hn=>by
  have ht:=(cV.1 hg).1;obtain⟨s,E⟩:=qN h hg hp hr;have d:(Wt H t p).2.1=none->vU H (Qt H t p) t:=λF=>by
   obtain⟨D,x,y⟩:=U7 (p:=p) ht;exact⟨by unfold fH;rw[x];exact y.trans F,λj u=>by unfold fH;rw[Ud p u]⟩
  rcases E with⟨p',D,e1,e2,e3,e4,e5⟩|⟨e1,e2,e3,e4⟩|⟨e1,e2,e3,e4⟩
  ·obtain⟨w,B,G⟩:=s.hi;obtain⟨J,i,kE⟩:=U7 (p:=p) ht;rw[e3]at i;cases i;have z:(Qt H t p).tb=H.tb:=(Uk H t p).1;have C:oA (Qt H t p) t p'<n:=by omega
   obtain⟨m,H',a,e,r,hi,ks,A,b⟩:=E7 (oA (Qt H t p) t p') G e3 (kE.trans e1) (by rw[z];exact e4) (zD _);refine⟨m+1,H',a,e,.next s.ok e1 r,hi,s.ks.trans ks,⟨A.1,λj u=>(A.2 j u).trans (by unfold fH;rw[Ud p u])⟩,?_⟩;rw[e2]at b;exact b
  ·exact⟨1,_,_,_,.done s.ok e1,s.hi,s.ks,d e1,.inl ⟨e2,e3,e4⟩⟩
  ·exact⟨1,_,_,_,.done s.ok e1,s.hi,s.ks,d e1,.inr ⟨e2,e3,e4⟩⟩
termination_by n=>n
theorem EV:∀(n:Nat) {H:Hw} {held:List Pc} {s0:Sp} {g:Th} {p:Ph},HI H held s0->H.bQ[t]?=some g->g.ph=some p->k8 p->pt g p<=n →
 ∃m H' e,iC m H t p H' 0 e/\(∃held s0,HI H' held s0)/\KS H.sp H'.sp/\vU H H' t/\((∀x,p≠.find x)->e=0/\H'.live=H.live) ∧
  (∀x,p=.find x->(bW H.live x=none->e≠0/\H'.live=H.live)/\(∀b,bW H.live x=some b->e=0/\H'.live=cS H.live x))
 | n,H,held,s0,g,p,h,hg,hp,hf,hn=>by
  have ht:=(cV.1 hg).1;obtain⟨s,P,N,J,a⟩:=qf h hg hp hf;rcases N with⟨p',z,e1,e2,e3,e4,e5⟩|e1
  ·obtain⟨y,K,Q⟩:=s.hi;obtain⟨R,i,kE⟩:=U7 (p:=p) ht;rw[e4]at i;cases i;have L:pt z p'<n:=by omega
   obtain⟨m,H',e,r,hi,ks,E,w,_⟩:=EV (pt z p') Q e4 (kE.trans e1) e2 (zD _);obtain⟨F,G⟩:=w e3;refine⟨m+1,H',e,.next s.ok e1 r,hi,s.ks.trans ks,⟨E.1,λj u=>(E.2 j u).trans (by unfold fH;rw[Ud p u])⟩,λd=>⟨F,G.trans (J d).2⟩,λx d=>⟨λA=>?_,λb M=>⟨F,G.trans ((a x d).2 b M).2⟩⟩⟩;have:=((a x d).1 A).1;rw[e1]at this;cases this
  ·have B:vU H (Qt H t p) t:=by
    obtain⟨z,C,D⟩:=U7 (p:=p) ht;exact⟨by unfold fH;rw[C];exact D.trans e1,λj u=>by unfold fH;rw[Ud p u]⟩
   have r:=iC.done (H:=H) (t:=t) s.ok e1;rw[P]at r;exact⟨1,_,_,r,s.hi,s.ks,B,J,λx d=>⟨λA=>((a x d).1 A).2,(a x d).2⟩⟩
termination_by n=>n
structure gg (H H':Hw):Prop where
 hi:∃held s0,HI H' held s0
 ks:KS H.sp H'.sp
 kp:Qu H' H
 ph:∀j,fH H' j=fH H j
theorem gg.refl (h:HI H held s0):gg H H:=⟨⟨held,s0,h⟩,KS.refl _,Qu.refl _,λ_=>rfl⟩
theorem gg.trans {H1 H2 H3:Hw}(a:gg H1 H2)(b:gg H2 H3):gg H1 H3:=⟨b.hi,a.ks.trans b.ks,a.kp.trans b.kp,λj=>(b.ph j).trans (a.ph j)⟩
theorem ET {tb:List bZ}{kind size align addr:Int}{p:Ph}(h:iI tb kind size align addr=some p)(hx:iE addr)(hh:g.bP=[]):im tb.length {g with ph:=some p}:=by
 unfold iI at h;split at h
 ·split at h
  ·split at h
   ·split at h
    ·rename_i k hk;cases h;exact⟨hh,DS hk⟩
    ·cases h;exact⟨hh,O,O⟩
   ·cases h
  ·cases h
 ·split at h
  ·cases h;exact⟨hh,hx⟩
  ·split at h
   ·cases h;exact hh
   ·cases h
theorem HI.eO (h:HI H held s0)(hg:H.bQ[t]?=some g)(hn:g.ph=none){p:Ph}(hp:im H.tb.length {g with ph:=some p})(hq:∀s a,p≠.dC s a):HI (eO H t (some p)) held s0:=by
 have b:=h.th g (h.mem hg);have e:Go.Ar.eO H t (some p) = {H with bQ:=H.bQ.set t {g with ph:=some p}}:=Zs hg _;rw[e];refine h.ky hg (live':=H.live) (λi x=>?_) h.lk (λj d=>.inl d) (λs a hp=>by cases hp;exact(hq s a rfl).elim) ⟨b.ll,b.lo,b.hb,b.hl,hp⟩;unfold gI;rw[hn];have:jz (some p) i x=0:=by
  cases p<;>first|rfl|exact(hq _ _ rfl).elim
 simp only[this];simp only[jz]
theorem FE (h:HI H held s0)(hg:H.bQ[t]?=some g)(hn:g.ph=none):g.bP=[]:=by
 have:=(h.th g (h.mem hg)).ph;unfold im at this;rw[hn]at this;exact this
theorem HZ (H:Hw)(thread kind size align addr:Int):(∃e,Kf H thread kind size align addr=.inl e/\e≠0)\/∃(t:Nat) (p:Ph) (g:Th),thread=(t:Int)/\H.bQ[t]?=some g/\g.ph=none/\iI H.tb kind size align addr=some p/\Kf H thread kind size align addr=.inr (t,p):=by
 unfold Kf;split
 ·split
  ·split
   ·split
    ·rename_i hth _ g hg hn _ p hp;exact .inr ⟨thread.toNat,p,g,O,hg,hn,hp,rfl⟩
    ·exact .inl ⟨1,rfl,by decide⟩
   ·exact .inl ⟨5,rfl,by decide⟩
  ·exact .inl ⟨1,rfl,by decide⟩
 ·exact .inl ⟨1,rfl,by decide⟩
theorem PF (hg:H.bQ[t]?=some g)(p:Option Ph)(hj:j≠t):fH (eO H t p) j=fH H j:=by
 unfold fH eO;rw[Kz _ hj]
theorem E8 (hg:H.bQ[t]?=some g)(hn:g.ph=none){p:Ph}(ps:vU (eO H t (some p)) H' t):∀j,fH H' j=fH H j:=λj=>by
 by_cases hj:j=t
 ·subst hj;rw[ps.1];unfold fH;rw[hg];exact hn.symm
 ·rw[ps.2 j hj,PF hg _ hj]
def qc (H:Hw)(size align:Int)(H':Hw)(a e:Int):Prop:=(e≠0/\a=0/\H'.live=H.live) ∨
 (e=0/\bW H.live a=none/\(1<=size/\size<=16384/\Uz size align=true)/\∃cl,H'.live=dB H.live a (a,(G0 H.tb size align).1,cl,XN H'.bX a)/\((∃k:Nat,cl=k/\gN H.tb size align=some k)\/cl = -1/\gN H.tb size align=none))
theorem L8 (h:HI H held s0)(thread size align:Int):∃H' a e,V8 H thread 0 size align 0 H' a e/\gg H H'/\qc H size align H' a e:=by
 rcases HZ H thread 0 size align 0 with⟨e,hs,hne⟩|⟨t,p,g,rfl,hg,hn,hq,hs⟩
 ·exact⟨H,0,e,.inl ⟨hs,hne,rfl,rfl⟩,gg.refl h,.inl ⟨hne,rfl,rfl⟩⟩
 ·have C:=FE h hg hn;have u:=ET (g:=g) hq (by unfold iE;decide) C;unfold iI at hq;rw[zC rfl]at hq;split at hq
  ·rename_i hsz;split at hq
   ·rename_i hok;have b:G0 H.tb size align=(match gN H.tb size align with
     | some k=>((H.tb.getD k ⟨8,1,1⟩).size:Int)
     | none=>xB size,0):=by
     unfold G0;rw[zC ⟨hsz.2,hok⟩]
     first|done | (cases gN H.tb size align<;>rfl)
    obtain⟨cl,d,i⟩:∃cl,Rq H.tb {g with ph:=some p} p cl (G0 H.tb size align).1/\((∃k:Nat,cl=k/\gN H.tb size align=some k)\/cl = -1/\gN H.tb size align=none):=by
     cases hcv:gN H.tb size align with
     | some k=>
      rw[hcv]at hq b;cases hq;have x:=DS hcv;have z:H.tb[k]?=some H.tb[k]:=cU x;refine⟨k,⟨rfl,H.tb[k],z,?_⟩,.inl ⟨k,rfl,rfl⟩⟩;rw[b];simp only;rw[zP,z];rfl
     | none=>
      rw[hcv]at hq b;cases hq;refine⟨-1,⟨rfl,?_⟩,.inr ⟨rfl,rfl⟩⟩;rw[b];simp only;unfold xB;omega
    have y:∀s a,p≠.dC s a:=λs a e=>by subst e;exact d.elim
    have E:=h.eO hg hn u y;have j:(Go.Ar.eO H t (some p)).bQ[t]?=some {g with ph:=some p}:=by
     have A:=(cV.1 hg).1;have e:Go.Ar.eO H t (some p) = {H with bQ:=H.bQ.set t {g with ph:=some p}}:=Zs hg _;rw[e];simp[A]
    obtain⟨m,H',a,e,r,B,ks,D,w⟩:=E7 _ E j rfl d (zD _);refine⟨H',a,e,.inr ⟨t,p,m,hs,r⟩,⟨B,ks,(KF _ _ _).trans (EF r),E8 hg hn D⟩,?_⟩;rcases w with⟨r1,r2,r3⟩|⟨r1,r2,r3⟩
    ·exact .inl ⟨r1,r2,r3⟩
    ·exact .inr ⟨r1,r2,⟨hsz.1,hsz.2,hok⟩,cl,r3,i⟩
   ·cases hq
  ·cases hq
def oI (H:Hw)(thread addr:Int)(H':Hw)(e:Int):Prop:=
 (e≠0/\H'=H/\Kf H thread 1 0 0 addr=.inl e)\/((∃p,Kf H thread 1 0 0 addr=.inr p)/\bW H.live addr=none/\e≠0/\H'.live=H.live)\/((∃p,Kf H thread 1 0 0 addr=.inr p)/\∃b,bW H.live addr=some b/\e=0/\H'.live=cS H.live addr)
theorem SG (h:HI H held s0)(hg:H.bQ[t]?=some g)(hn:g.ph=none){p:Ph}(hp:im H.tb.length {g with ph:=some p})(hf:k8 p)(hq:∀s a,p≠.dC s a):∃m H' e,iC m (eO H t (some p)) t p H' 0 e/\gg H H'/\((∀x,p≠.find x)->e=0/\H'.live=H.live) ∧
 (∀x,p=.find x->(bW H.live x=none->e≠0/\H'.live=H.live)/\(∀b,bW H.live x=some b->e=0/\H'.live=cS H.live x)):=by
 have y:=h.eO hg hn hp hq;have d:(Go.Ar.eO H t (some p)).bQ[t]?=some {g with ph:=some p}:=by
  have j:=(cV.1 hg).1;have e:Go.Ar.eO H t (some p) = {H with bQ:=H.bQ.set t {g with ph:=some p}}:=Zs hg _;rw[e];simp[j]
 obtain⟨m,H',e,r,z,ks,i,u,w⟩:=EV _ y d rfl hf (zD _);exact⟨m,H',e,r,⟨z,ks,(KF _ _ _).trans (EF r),E8 hg hn i⟩,u,w⟩
theorem OP (h:HI H held s0)(thread addr:Int)(hx:iE addr):∃H' e,V8 H thread 1 0 0 addr H' 0 e/\gg H H'/\oI H thread addr H' e:=by
 rcases HZ H thread 1 0 0 addr with⟨e,hs,hne⟩|⟨t,p,g,rfl,hg,hn,hq,hs⟩
 ·exact⟨H,e,.inl ⟨hs,hne,rfl,rfl⟩,gg.refl h,.inl ⟨hne,rfl,hs⟩⟩
 ·have d:=ET (g:=g) hq hx (FE h hg hn);have j:p=.find addr:=by unfold iI at hq;simp at hq;exact hq.symm
  subst j;obtain⟨m,H',e,r,op,_,i⟩:=SG h hg hn d trivial (λs a e=>by cases e);refine⟨H',e,.inr ⟨t,_,m,hs,r⟩,op,?_⟩;cases hm:bW H.live addr with
  | none=>exact .inr (.inl ⟨⟨_,hs⟩,hm,(i addr rfl).1 hm⟩)
  | some b=>exact .inr (.inr ⟨⟨_,hs⟩,b,hm,(i addr rfl).2 b hm⟩)
end Go.Ar
namespace Go.Ar
open Go Go.Vc Go.Proofs
variable {U u w w':Hp}{F B P Q:Rg}{L:dJ}{H H':Hw}{t n k:Nat}{A:AR}{Y:Lay}
theorem Fr.refl (A:AR):Fr A A:=⟨rfl,rfl,rfl⟩
theorem Fr.trans {A B C:AR}(h:Fr B A)(k:Fr C B):Fr C A:=⟨k.1.trans h.1,k.2.1.trans h.2.1,k.2.2.trans h.2.2⟩
end Go.Ar
namespace Go.Ar
variable {A:AR}
def pT (tb:List bZ)(n room m:Nat):Wd:=⟨tb,Va n,List.replicate m (fo n room tb),[]⟩
theorem JE {n room:Nat}{tb:List bZ}(h1:32<=n)(h2:n<=1024)(h3:n%16=0)(h6:tb.length<=40)(h7:∀c∈tb,c.ok):GA (fo n room tb)/\∀p,(fo n room tb).f p=0:=by
 have g:∀p,(fo n room tb).f p=0:=λp=>by
  show(List.replicate n 0).getD p 0=0;rw[zP,l7];split<;>rfl
 have b:∀{k:Nat} {i:List cF},(List.replicate tb.length ([]:List cF))[k]?=some i->i=[]:=λh=>by
  rw[l7]at h;split at h<;>simp at h;exact h
 have a:∀{k:Nat} {t:gD},(List.replicate tb.length (⟨0,[]⟩:gD))[k]?=some t->t.bs=[]:=λh=>by
  rw[l7]at h;split at h<;>simp at h;rw[←h]
 refine⟨⟨⟨by simp[fo],h1,h2,h3,λp=>by rw[g];omega,λp=>by rw[g];simp[fo],λp=>by rw[g];simp[fo,Go.Bu.iv],λp=>by rw[g,g]⟩,h6,by simp[fo],by simp[fo],λk c i d=>?_,λk c i d s m=>?_,λk c i d p=>?_,λp=>?_,λp=>.inr (Nat.zero_le _),by simp[fo],by simp[fo],λk t j=>?_,λk c i t d j=>?_,λk c t d j=>?_⟩,g⟩
 ·have e:=b d.2;subst e;exact⟨h7 c (zG d.1),by simp,by simp⟩
 ·have e:=b d.2;subst e;simp at m
 ·have e:=b d.2;subst e;constructor
  ·intro h;cases h
  ·rintro⟨s,m,_⟩;simp at m
 ·constructor
  ·intro h;cases h
  ·rintro⟨r,hr,_⟩;simp[fo]at hr
 ·have:=a j;rw[this];exact sg
 ·have:=a j;rw[this];simp
 ·have:=a j;rw[this];simp
theorem Jh {tb:List bZ}{n room m:Nat}(h1:32<=n)(h2:n<=1024)(h3:n%16=0)(h6:tb.length<=40)(h7:∀c∈tb,c.ok):WI (pT tb n room m):=by
 obtain⟨w,d⟩:=JE (room:=room) h1 h2 h3 h6 h7;have get:∀{k:Nat} {A:AR},(pT tb n room m).bX[k]?=some A->A=fo n room tb:=λ{k A} h=>by
  have h:(List.replicate m (fo n room tb))[k]?=some A:=h;rw[l7]at h;split at h<;>simp at h;exact h.symm
 have b:∀p,gf (Va n).st p=0:=λp=>by
  show(List.replicate n 0).getD p 0=0;rw[zP,l7];split<;>rfl
 refine⟨λk A h=>by rw[get h];exact w,λk A h=>?_,λk A h=>by rw[get h];rfl,λk A h p a=>by rw[get h];exact d p,λp a=>(a (b p)).elim,λp k l A B D F h1 h2=>?_,sg,λp a=>by simp[pT]at a,λk A h j y u=>?_,λk A h r x=>?_⟩
 ·rw[get h];exact⟨by simp[pT,Va,fo],λp a=>(a (d p)).elim,λp a=>by rw[d p]at a;omega,λp=>by show gf (Va n).st p<=2;rw[b];omega⟩
 ·rw[get D]at h1;exact(h1 (d p)).elim
 ·rw[get h]at u;obtain⟨c,E,g,z⟩:=u;have e:E=[]:=by
   have h2:=g.2;simp only[fo]at h2;rw[l7]at h2;split at h2<;>simp at h2;exact h2
  subst e;obtain⟨G,s,i,C,_⟩:=(Vu (w.cD _ _ _ g)).1 z;simp at C
 ·rw[get h]at x;simp[fo]at x
end Go.Ar
namespace Go.Ar
open Go.Vc (bW dB cS)
variable {H H':Hw}{held:List Pc}{s0:Sp}{t k j:Nat}{g:Th}{A:AR}{c:bZ}
theorem OM {tb:List bZ}{cf:Cf}(h1:32<=cf.aF)(h2:cf.aF<=1024)(h3:cf.aF%16=0)(h4:1<=cf.gY)(h6:tb.length<=40)(h7:∀c∈tb,c.ok):HI (VQ tb cf) [] (Va cf.aF):=by
 have A:=Jh (tb:=tb) (n:=cf.aF) (room:=cf.room) (m:=cf.gY) h1 h2 h3 h6 h7;have d:∀g∈(VQ tb cf).bQ,g=⟨List.replicate tb.length ij,[],none⟩:=λg i=>(yv.1 i).2;have r:∀k,(List.replicate tb.length ij).getD k ij=ij:=λk=>by
  rw[zP,l7];split<;>rfl
 refine⟨A,jl.refl _,λk x=>?_,sg,λe u=>by simp[VQ]at u,λg i s a j=>?_,λg i=>?_,h7,?_,?_⟩
 ·have z:∀(n:Nat) (f:Th->Nat) (g:Th),f g=0->((List.replicate n g).map f).sum=0:=λn f g h=>by
   rw[tP,h]
   induction n with
   | zero=>rfl
   | succ n ih=>rw[uZ,nO,ih]
  have y:gI ⟨List.replicate tb.length ij,[],none⟩ k x=0:=by
   unfold gI lp;split
   ·simp only[r];rfl
   ·rfl
  have:qI (VQ tb cf) k x=0:=by
   unfold qI;show lX [] k x+((List.replicate cf.threads (⟨List.replicate tb.length ij,[],none⟩:Th)).map λg=>gI g k x).sum=0;rw[z _ _ _ y];rfl
  rw[this,Kb];rintro⟨p,j,_⟩;simp at j
 ·rw[d g i]at j;cases j
 ·rw[d g i];refine⟨by simp[VQ],λl B=>?_,λb w=>by simp at w,by simp,by unfold im;rfl⟩;rw[(yv.1 B).2];exact⟨fL.nil,by simp[ij]⟩
 ·show 1<=(List.replicate cf.gY (fo cf.aF cf.room tb)).length;simpa using h4
 ·show(List.replicate cf.aF 0).length=cf.aF;simp
def KL (H H':Hw):Prop:=∀e∈H.live,∀w:Nat,e.1<=((8*w:Nat):Int)->((8*w:Nat):Int)<e.1+e.2.2.1->H'.sp.wd w=H.sp.wd w
theorem HI.yo (h:HI H held s0):WI ⟨H.tb,s0,H.bX,held⟩:=h.wi
theorem HI.mapped (h:HI H held s0){p:Pc}(hp:p∈held){x:Nat}(h1:p.addr<=x)(h2:x<p.addr+p.size):gf H.sp.st (x/256)≠0:=by
 obtain⟨A,a,_⟩:=h.wi.hf p hp;have e1:=h.wi.qd hp a h1 h2;have:=(h.wi.ow _ A a).own (x/256) O;intro hz;exact this ((h.mH.z _).1 hz)
theorem HI.kl (h:HI H held s0)(k:KS H.sp H'.sp):KL H H':=λe a w i m=>by
 obtain⟨_,p,b,_,_,j,g,_⟩:=h.lv e a;have d:=h.mapped b (x:=8*w) O O;exact(k.k _ d).2 w O
theorem KL.refl (H:Hw):KL H H:=λ_ _ _ _ _=>rfl
theorem KL.trans {H1 H2 H3:Hw}(a:KL H1 H2)(b:KL H2 H3)(hl:∀e∈H1.live,e∈H2.live):KL H1 H3:=λe d w g i=>(b e (hl e d) w g i).trans (a e d w g i)
structure mE (H H':Hw):Prop where
 hi:∃held s0,HI H' held s0
 live:H'.live=H.live
 bQ:H'.bQ=H.bQ
 kp:Qu H' H
 kl:KL H H'
theorem mE.refl (h:HI H held s0):mE H H:=⟨⟨_,_,h⟩,rfl,rfl,Qu.refl _,KL.refl _⟩
theorem mE.trans {H1 H2 H3:Hw}(a:mE H1 H2)(b:mE H2 H3):mE H1 H3:=⟨b.hi,b.live.trans a.live,b.bQ.trans a.bQ,a.kp.trans b.kp,a.kl.trans b.kl λe d=>by rw[a.live];exact d⟩
theorem HI.n (h:HI H held s0)(hk:H.bX[k]?=some A):A.n=H.cf.aF:=by
 have:=(h.wi.ow k A hk).l;have b:=h.mH.l;have a:=h.sl;simp only at this;omega
theorem WI.wd {W:Wd}(h:WI W)(f:Nat->Int):WI {W with sp:={W.sp with wd:=f}}:=
 ⟨h.ga,λk A hk=>⟨(h.ow k A hk).l,(h.ow k A hk).own,(h.ow k A hk).cl,(h.ow k A hk).le⟩,h.tb,h.low,h.own,h.one,h.hk,h.hf,h.ht,h.hr⟩
theorem OC {sp:Sp}{x:Int}(h:eR sp x=0):0<=x/\x%8=0/\gf sp.st (x.toNat/256)≠0:=by
 unfold eR at h;split at h
 ·cases h
 ·split at h
  ·cases h
  ·exact⟨O,O,by assumption⟩
theorem Fp (sp:Sp)(x v:Int):(ZV sp x v).st.length=sp.st.length/\(∀p,gf (ZV sp x v).st p=0↔gf sp.st p=0)/\∀w,(ZV sp x v).wd w=if eR sp x=0/\w=x.toNat/8 then v else sp.wd w:=by
 unfold ZV;split
 ·rename_i h0;have a:=OC h0;refine⟨by simp[nb],λp=>?_,λw=>?_⟩
  ·show gf (sp.st.set (x.toNat/8/32) 2) p=0↔_;have b:x.toNat/8/32=x.toNat/256:=by omega
   rw[b];unfold gf at a ⊢;rw[zP]at a ⊢;rw[zP,mI];split
   ·rename_i he;split
    ·rw[←he];simp only[pv];exact⟨λh=>O,λh=>(a.2.2 h).elim⟩
    ·rename_i hl;rw[zV O]at a;exact(a.2.2 rfl).elim
   ·exact Iff.rfl
  ·show(if w=x.toNat/8 then v else sp.wd w)=_
   by_cases hw:w=x.toNat/8
   ·rw[zC hw,zC ⟨h0,hw⟩]
   ·rw[zB hw,zB λh=>hw h.2]
 ·exact⟨rfl,λ_=>Iff.rfl,λw=>by rw[zB λh=>by have:=h.1;contradiction]⟩
theorem HI.write (h:HI H held s0)(x v:Int):HI {H with sp:=ZV H.sp x v} held {s0 with wd:=(ZV H.sp x v).wd}:=by
 obtain⟨a,b,_⟩:=Fp H.sp x v;exact⟨h.wi.wd _,⟨a.trans h.mH.l,λp=>(b p).trans (h.mH.z p),rfl⟩,h.cn,h.lk,h.lv,h.gv,h.th,h.ok,h.a1,a.trans h.sl⟩
end Go.Ar
namespace Go.Ar
open Go Go.Vc Go.Proofs
variable {U u w w':Hp}{F B P Q:Rg}{L:dJ}{H H':Hw}{t n:Nat}{g:Th}
end Go.Ar
namespace Go.Proofs
open Go.Vc
set_option maxRecDepth 100000
def WP.h:Hn:=.q .o2 (.q (.q (.cR (.seq [.op,.op,.op,.cX false 2 [.op,.op]])) .aJ) (.q .o1 (.q .o1 (.q (.k (.loop [(4,.one .s),(5,.I)] (.q (.q .o2 (.c .l .l)) (.k (.q .o7 .o6))))) (.q .o6 (.q .o1 (.q (.q .o1 (.k (.loop [(6,.one .s),(7,.I)] (.q (.q .o4 (.c .l .l)) (.q (.k (.q (.cR (.gL true [] [(70,.one .b)] (.tk [0,1,2,3,4,5] (.split 43 (.tk [6,7,8,9,10,11,12,13,14,15,16,17,18,19,20,21,22,23,24,25,26,27,28,29,30,31,32] (.done)) (.tk [6,7,8,9,10,11,12,13,14,15,16,17,18,19] (.split 57 (.tk [20,21,22,23,24,25,26,27,28,29,30,31,32] (.done)) (.tk [20,21,22,23,25,26,27,28,29] (.all [(24,.all [(30,.take 31 (.take 32 (.done)))])])))))))) (.c .o8 .l))) .o3))))) (.q .o3 .l))))))))
def WP.v (a:Int)(b:Hp)(c:Sl->Int->Hp->Prop):Prop:=bV (λd e=>If d (c ⟨none,0,0⟩ 1 e) (X9 [.s,bN] (λf=>f ⟨none,0,0⟩ 8 e) λg (h:Sl) (i:Int) j=>If (i<512) (Xd.c i a j λk l m n=>aV #[.I k,.I l,.I m] 137 n λo p=>App h 3 24 137 [.I 0,.I 0,.I 0] ⟨some o,1,1⟩ p λq r=>XH.c i a r λs t=>bL (i+s) λu=>g q u t) (Xd.c 512 a j λv w x y=>aV #[.I v,.I w,.I x] 137 y λz aa=>App h 3 24 137 [.I 0,.I 0,.I 0] ⟨some z,1,1⟩ aa λab ac=>X9 [.s,bN] (λad=>ad ⟨none,0,0⟩ 0 ac) λae (af:Sl) (ag:Int) ah=>If (ag<((ab.len:Nat):Int)) (Jn [.b] (λ(ai:Bool) aj=>If ai (Ix ab.a ab.len ag 3 λak=>aQ ak 0 aj λal=>aQ ak 1 aj λam=>aQ ak 2 aj λan=>aV #[.I al,.I am,.I an] 137 aj λao ap=>App af 3 24 137 [.I 0,.I 0,.I 0] ⟨some ao,1,1⟩ ap λaq ar=>bL (ag+1) λau=>ae aq au ar) (bL (ag+1) λav=>ae af av aj)) λaw=>eI ah λax=>bL (((ab.len:Nat):Int)-1) λay=>If (ag==ay) (aw true ah) (Ix ab.a ab.len ag 3 λaz=>aS ax az 1 λa0=>bL (ag+1) λa1=>Ix ab.a ab.len a1 3 λa2=>aS ax a2 1 λa3=>If (a0 != a3) (aw true ah) (Ix ab.a ab.len ag 3 λa4=>aS ax a4 0 λa5=>aS ax a4 1 λa6=>aS ax a4 2 λa7=>bL (ag+1) λa8=>Ix ab.a ab.len a8 3 λa9=>aS ax a9 0 λba=>aS ax a9 1 λbb=>aS ax a9 2 λbc=>WL.c a5 a6 a7 ah λbd be=>
 And (ax be) <| WL.c ba bb bc be λbf bg=>And (ax bg) <| aw (bd != bf) bg))) (c af 0 ah)))) λbh=>If (a<2) (bh true b) (bh (decide (a>16)) b)
theorem WP.o {a b c}(d:WP.v a b c):WP.c a b c:=Wa Tryz.func100 (x:=WP.h) (R0 d)
def Xd.h:Hn:=.q .o1 (.q .o8 (.q (.q .o1 (.k (.loop [(6,.I)] (.q (.q .o2 (.c .l .l)) (.q (.k (.q (.cR (.seq [.op,.op,.op,.op,.op,.cX true 9 (RI.ops 9)])) (.c .o3 .l))) .o3))))) .aL))
def Xd.v (a b:Int)(c:Hp)(d:Int->Int->Int->Hp->Prop):Prop:=aV #[.I 0,.I 0,.I 0] 137 c λe f=>Nz a<|bL ((512:Int).tdiv a) λg=>aV #[.I 0,.I 0,.I 0] 137 f λh i=>aR h 0 (.I a) i λj=>aR h 1 (.I 4) j λk=>aR h 2 (.I (if 32<(if 2>g then 2 else g)then 32 else(if 2>g then 2 else g))) k λl=>X9 [bN] (λm=>m 4 l) λn (o:Int) p=>If (o≥1) (bL (o*256) λq=>bV (λr s=>If r (aR h 1 (.I o) s λt=>bL (o-1) λu=>n u t) (bL (o-1) λv=>n v s)) λw=>If (q≥a) (bL (o*256) λx=>Nz a <| bL (b*(x.tmod a)) λy=>bL (o*256) λz=>w (decide (y<=z)) p) (w false p)) (aQ h 0 p λaa=>aQ h 1 p λab=>aQ h 2 p λac=>aR e 0 (.I aa) p λad=>aR e 1 (.I ab) ad λae=>aR e 2 (.I ac) ae λaf=>aQ e 0 af λag=>aQ e 1 af λah=>aQ e 2 af λai=>d ag ah ai af)
theorem Xd.o {a b c d}(e:Xd.v a b c d):Xd.c a b c d:=Wa Tryz.func137 (x:=Xd.h) (R0 e)
def XH.h:Hn:=.q .o1 (.q .o1 (.q (.k (.loop [(5,.I)] (.q (.q .o6 (.c .l .l)) (.k .o3)))) .aL))
def XH.v (a b:Int)(c:Hp)(d:aN):Prop:=X9 [bN] (λe=>e 8 c) λf (g:Int) h=>bL (2*g) λi=>Nz b<|bL (a.tdiv b) λj=>If (i<=j) (bL (2*g) λk=>f k h) (d g h)
theorem XH.o {a b c d}(e:XH.v a b c d):XH.c a b c d:=Wa Tryz.func138 (x:=XH.h) (R0 e)
def WL.h:Hn:=.q .o2 (.q .o1 (.q (.k (.loop [(3,.I)] (.q (.q .o9 (.c .l .l)) (.k .o3)))) .aL))
def WL.v (a b c:Int)(d:Hp)(e:aN):Prop:=aV #[.I a,.I b,.I c] 137 d λf g=>X9 [bN] (λh=>h 0 g) λi (j:Int) k=>bL (j+1) λl=>aQ f 0 k λm=>bL (l*m) λn=>aQ f 1 k λo=>bL (o*256) λp=>If (n<=p) (bL (j+1) λq=>i q k) (e j k)
theorem WL.o {a b c d e}(f:WL.v a b c d e):WL.c a b c d e:=Wa Tryz.func139 (x:=WL.h) (R0 f)
end Go.Proofs
namespace Go.Ar
open Go Go.Vc Go.Proofs
variable {U w:Hp}
abbrev T3:=Int×Int×Int
def v3 (x:T3):List Value:=[.int .i64 x.1,.int .i64 x.2.1,.int .i64 x.2.2]
def j4 (l:List T3):List Value:=l.flatMap v3
theorem VK (l:List T3):(j4 l).length=l.length*3:=by
 induction l with
 | nil=>rfl
 | cons x l ih=>simp only[j4,oy,zO,v3,zY,lA]at *;omega
theorem yS (l:List T3)(x:T3):j4 (l++[x])=j4 l++v3 x:=by simp[j4]
theorem HA:∀{l:List T3} {i:Nat} {x:T3},l[i]?=some x->∀{d:Nat},d<3->(j4 l)[i*3+d]?=(v3 x)[d]?
 | [],_,_,h,_,_=>by simp at h
 | y::l,0,x,h,d,hd=>by
  simp at h;subst h;have e:j4 (y::l)=v3 y++j4 l:=rfl;rw[e,ze (by simp[v3];omega)];congr 1;omega
 | y::l,i+1,x,h,d,hd=>by
  have e:j4 (y::l)=v3 y++j4 l:=rfl;have a:(v3 y).length=3:=rfl;rw[e,zp O,a,show(i+1)*3+d-3=i*3+d by omega];exact HA (by simpa using h) hd
theorem DF {Q:Rg}{s:Sl}{l:List T3}(h:Go.Vc.Own Q U s 3 (j4 l)):ie U s l:=by
 have p:=h.1;rw[VK]at p;refine⟨O,λi x y z d=>?_⟩;obtain⟨b,e,g⟩:=h.cell (j:=i*3+0) (v:=.int .i64 x) ((HA d O).trans rfl);obtain⟨r,a,m⟩:=h.cell (j:=i*3+1) (v:=.int .i64 y) ((HA d O).trans rfl);rw[e]at a;cases a;obtain⟨r,a,u⟩:=h.cell (j:=i*3+2) (v:=.int .i64 z) ((HA d O).trans rfl);rw[e]at a;cases a;refine⟨b,0,e,Q8 g,?_,?_,?_⟩
 ·rw[show 0+i*3=i*3+0 by omega];exact g
 ·rw[show 0+i*3+1=i*3+1 by omega];exact m
 ·rw[show 0+i*3+2=i*3+2 by omega];exact u
def GO (s w:Int)(n:Nat):Int:=([4,3,2,1].take n).foldl (λ(r p:Int)=>if s<=p*256/\w*((p*256)%s)<=p*256 then p else r) 4
def yh (s:Int):Int:=min 32 (max 2 (512/s))
def kR (s w:Int):T3:=(s,GO s w 4,yh s)
def wm:Nat->Int->Int->Int
 | 0,d,_=>d
 | n+1,d,q=>if 2*d<=q then wm n (2*d) q else d
def wH (s w:Int):Int:=wm 8 8 (s/w)
def mg (x:T3):Int:=x.2.1*256/x.1
theorem Mu (s w:Int)(n:Nat):1<=GO s w n/\GO s w n<=4:=by
 have key:∀(l:List Int) (r:Int),(∀p∈l,1<=p/\p<=4)->1<=r/\r<=4->1<=l.foldl (λ(r p:Int)=>if s<=p*256/\w*((p*256)%s)<=p*256 then p else r) r/\l.foldl (λ(r p:Int)=>if s<=p*256/\w*((p*256)%s)<=p*256 then p else r) r<=4:=by
  intro l
  induction l with
  | nil=>intro r _ h;exact h
  | cons p l ih=>
   intro r hl hr;rw[qM];refine ih _ (λq a=>hl q (nB _ a)) ?_;split
   ·exact hl p pw
   ·exact hr
 refine key _ _ (λp b=>?_) O;have:=vW b;simp at this;omega
theorem EW (s w:Int)(h1:8<=s)(h2:s<=512)(hw1:2<=w)(hw2:w<=16){R:Int->Int->Int->Hp->Prop}(hR:∀σ',bK U σ'->R (kR s w).1 (kR s w).2.1 (kR s w).2.2 σ'):Xd.c s w U R:=by
 refine Xd.o ?_;unfold Xd.v;have W:1<=512/s/\512/s<=64:=⟨by rw[Int.le_ediv_iff_mul_le O];omega,Int.ediv_le_of_le_mul O O⟩;refine nw (cs:=[.int .i64 0,.int .i64 0,.int .i64 0]) λv hz e S=>nz O (ar (by rw[XO O];omega) (by rw[XO O];omega) ?_);rw[XO O];refine nw (cs:=[.int .i64 0,.int .i64 0,.int .i64 0]) λv1 H e1 y=>y.s1 aA λv2 o2 C=>C.s1 aA λL o3 p=>p.s1 aA λv4 o4 b4=>?_;have b:U.size≠v.size:=by omega
 have D:=Ws o4 (Ws o3 (Ws o2 (e1.bT S id) b) b) b;have Q:bK U v4:=((((e.trans e1).only o2 (.inr O)).only o3 (.inr O)).only o4 (.inr O));have j:(if 32<(if 2>512/s then 2 else 512/s)then 32 else(if 2>512/s then 2 else 512/s))=yh s:=by unfold yh;omega
 rw[j]at b4;refine ZX (a:=bN) (λ(z:Int) u=>∃n:Nat,n<=4/\z=4-(n:Int)/\bK U u/\bY u U.size [.int .i64 0,.int .i64 0,.int .i64 0]/\bY u v.size [.int .i64 s,.int .i64 (GO s w n),.int .i64 (yh s)]) (λz _=>z.toNat) ⟨0,O,rfl,Q,D,b4⟩ ?_;rintro(z:Int) u ⟨n,hn,rfl,eu,hu,bu⟩;refine cQ (λV=>?_) λP=>?_
 ·have aa:n<4:=by omega
  have d:GO s w (n+1)=if s<=(4-(n:Int))*256/\w*(((4-(n:Int))*256)%s)<=(4-(n:Int))*256 then 4-(n:Int)else GO s w n:=by
   have Z:([4,3,2,1]:List Int)[n]?=some (4-(n:Int)):=by
    rcases(show n=0\/n=1\/n=2\/n=3 by omega)with rfl|rfl|rfl|rfl<;>rfl
   unfold GO;rw[k9,Z,vM];rfl
  refine ar O O ?_;refine QZ (λr F=>F=u/\r=decide (s<=(4-(n:Int))*256/\w*(((4-(n:Int))*256)%s)<=(4-(n:Int))*256)) (λr F ⟨E,x⟩=>?_) λJ G=>?_
  ·subst E;by_cases hc:s<=(4-(n:Int))*256/\w*(((4-(n:Int))*256)%s)<=(4-(n:Int))*256
   ·rw[zJ hc]at x;rw[zC hc]at d;refine cE x (bu.s1 aA λY o1 B=>ar O O ⟨⟨n+1,O,O,eu.only o1 (.inr O),Ws o1 hu b,by rw[d];exact B⟩,O⟩)
   ·rw[zK hc]at x;rw[zB hc]at d;exact cB x (ar O O ⟨⟨n+1,O,O,eu,hu,by rw[d];exact bu⟩,O⟩)
  ·have g:=Int.emod_nonneg ((4-(n:Int))*256) (show s≠0 by omega);have X:=Int.emod_lt_of_pos ((4-(n:Int))*256) (show 0<s by omega);have N:w*(((4-(n:Int))*256)%s)<=16*512:=Int.mul_le_mul hw2 O g O;have M:0<=w*(((4-(n:Int))*256)%s):=Int.mul_nonneg O g;refine cQ (λh1=>ar O O (nz O ?_)) λh1=>G _ _ ⟨rfl,(zK λm=>h1 m.1).symm⟩;rw[Qp O];refine ar O O (ar O O (G _ _ ⟨rfl,?_⟩));rw[decide_eq_decide];exact⟨λm=>⟨h1,m⟩,λm=>m.2⟩
 ·have A:n=4:=by omega
  subst A;refine bu.rI rfl (bu.rI rfl (bu.rI rfl (hu.s1 aA λY o1 B=>B.s1 aA λu2 o2 C=>C.s1 aA λK o3 p=>p.rI rfl (p.rI rfl (p.rI rfl (hR K ?_))))));exact((eu.only o1 (.inr O)).only o2 (.inr O)).only o3 (.inr O)
theorem Le (s w:Int)(h1:8<=s)(h2:s<=512)(hw1:2<=w){R:aN}(hR:8<=wH s w->wH s w<=256->R (wH s w) U):XH.c s w U R:=by
 refine XH.o ?_;unfold XH.v;have j:0<=s/w/\s/w<=256:=⟨Int.ediv_nonneg O O,by
  have:s/w<=s/2:=by
   apply Int.le_ediv_of_mul_le O;have:=Int.ediv_mul_le s (show w≠0 by omega);have g:s/w*2<=s/w*w:=Int.mul_le_mul_of_nonneg_left hw1 (Int.ediv_nonneg O O);omega
  omega⟩
 refine ZX (a:=bN) (λ(d:Int) u=>u=U/\∃n:Nat,wm n d (s/w)=wH s w/\8<=d/\d<=256/\512<=d*2^n) (λd _=>1000-d.toNat) ⟨rfl,8,rfl,O,O,by decide⟩ ?_;rintro(d:Int) u ⟨rfl,n,hst,hd1,hd2,hdn⟩;refine ar O O (nz O (ar (by rw[XO O];omega) (by rw[XO O];omega) ?_));rw[XO O];cases n with
 | zero=>simp at hdn;omega
 | succ n=>
  refine cQ (λb=>ar O O ⟨⟨rfl,n,?_,O,O,?_⟩,O⟩) λe=>?_
  ·rw[wm,zC b]at hst;exact hst
  ·rw[Int.pow_succ]at hdn;have:2*d*2^n=d*(2^n*2):=by rw[Int.mul_comm 2 d,Int.mul_assoc,Int.mul_comm 2 (2^n)]
   omega
  ·rw[wm,zB e]at hst;rw[←hst]at hR;exact hR hd1 hd2
theorem DY (x:T3)(h1:8<=x.1)(h2:x.1<=512)(h3:1<=x.2.1)(h4:x.2.1<=4){R:aN}(hR:∀σ',bK U σ'->R (mg x) σ'):WL.c x.1 x.2.1 x.2.2 U R:=by
 refine WL.o ?_;unfold WL.v;refine nw (cs:=[.int .i64 x.1,.int .i64 x.2.1,.int .i64 x.2.2]) λv r e j=>?_;refine ZX (a:=bN) (λ(n:Int) u=>bK U u/\bY u U.size [.int .i64 x.1,.int .i64 x.2.1,.int .i64 x.2.2]/\0<=n/\n<=128/\n*x.1<=x.2.1*256) (λn _=>1000-n.toNat) ⟨e,j,O,O,O⟩ ?_;rintro(n:Int) u ⟨eu,bu,hn0,hn1,hn⟩;have w:(n+1)*x.1<=129*512:=Int.mul_le_mul O h2 O O;have g:0<=(n+1)*x.1:=Int.mul_nonneg O O;refine ar O O (bu.rI rfl (ar O O (bu.rI rfl (ar O O ?_))));refine cQ (λb=>ar O O ⟨⟨eu,bu,O,?_,b⟩,O⟩) λm=>?_
 ·have:(n+1)*8<=(n+1)*x.1:=Int.mul_le_mul_of_nonneg_left h1 O;omega
 ·have:mg x=n:=by
   unfold mg;have s:n<=x.2.1*256/x.1:=(Int.le_ediv_iff_mul_le O).2 hn;have p:x.2.1*256/x.1<n+1:=(Int.ediv_lt_iff_lt_mul O).2 O;omega
  have d:=hR u eu;rw[this]at d;exact d
end Go.Ar