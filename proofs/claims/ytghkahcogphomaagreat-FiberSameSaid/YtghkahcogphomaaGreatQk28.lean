/- Fibers: a part of the walk. No condition. -/
import Derived.Test.YtghkahcogphomaaGreatQk25
set_option linter.all false
namespace Go.Proofs.YtghkahcogphomaaGreat
section
open Go.ChangeShapes Go.WideShapes Go.RowKit
variable{w0 w w1 w':World}{c:Sk}{A A':Ar}{top:Int}{last:Value}{M M':Mem}{r hi lo:Int}{f1 f2:List Int}
def Dn(M M':Mem)(d:List PF)(t u:Int):Prop:=(d=[]∧t=45∧u=45)∨∃d0 p g1 g2,d=d0++[p]∧RC M' u d0 t g1∧RF M' u 45 p g2∧(∀z,z∈g1→z∉g2)∧(∀z,z∈g1++g2→M z=none)
theorem Dn.first{M2:Mem}{p:PF}{g:Int}{fq:List Int}(h1:RF M2 g 45 p fq)(h2: ∀z,z∈fq→M z=none):Dn M M2 [p] g g:=
 .inr ⟨[],p,[],fq,rfl,⟨rfl,rfl⟩,h1,by simp,by simpa using h2⟩
theorem Dn.next{M1 M2:Mem}{d:List PF}{p:PF}{t u g:Int}{fq:List Int}(hp:Hq A c.m M2)(hO1:Off [] M M1)(hO2:Off [] M1 M2)(h:Dn M M1 d t u)(hd:d≠[])(h1:RF M2 g 45 p fq)(h2: ∀z,z∈fq→M1 z=none):
 ∃M3,Hq (stF A c.m u 0 g) c.m M3∧Off [] M M3∧Dn M M3 (d++[p]) t g:=by
 rcases h with⟨h,_⟩|⟨d0,q,g1,g2,rfl,k1',k2',k3,k4⟩
 ·exact absurd h hd
 ·have hO:=hO1.trans hO2;have k1:=RC.off hO2 hO2.k80 k1' (by simp);have k2:=k2'.off hO2 hO2.k80 (by simp);have hgw:=h1.w hp;obtain⟨M3,p3,q3,O3,K3⟩:=k2.setbelow hp g hgw;have hum:=k2.mem;have hun:M u=none:=k4 u (by simp[hum])
  have hdis: ∀z,z∈fq→z∉g1++g2:=fun z hz hm=>by
   have hn:=h2 z hz;rcases List.mem_append.1 hm with hm|hm
   ·obtain⟨o,ho,_⟩:=RC.dom k1' z hm;rw[hn]at ho;cases ho
   ·obtain⟨o,ho,_⟩:=k2'.dom z hm;rw[hn]at ho;cases ho
  have hO3:Off [] M M3:=by
   intro z o _ ho;refine O3 z o ?_ (hO z o (by simp) ho);simp only[List.mem_cons,List.not_mem_nil,or_false];rintro rfl;rw[hun]at ho;cases ho
  refine⟨M3,p3,hO3,.inr ⟨d0++[q],p,g1++g2,fq,rfl, ?_, ?_, ?_, ?_⟩⟩
  ·refine RC.app.2 ⟨u,g1,g2,RC.off O3 K3 k1 ?_,⟨g,g2,[],q3,⟨rfl,rfl⟩,by simp,by simp⟩,rfl,k3⟩;intro z hz hm;simp at hm;subst hm;exact k3 z hz hum
  ·exact h1.off O3 K3 (by intro z hz hm;simp at hm;subst hm;exact hdis z hz (by simp[hum]))
  ·intro z hz hc;exact hdis z hc hz
  ·intro z hz;rcases List.mem_append.1 hz with hz|hz
   ·exact k4 z hz
   ·cases hM:M z with
    |none=>rfl
    |some v=>have:=h2 z hz;rw[hO1 z v (by simp) hM]at this;cases this
def AgP(w0:World)(c:Sk)(top:Int)(last:Value)(M M':Mem)(p:PF)(e:Ending)(w':World):Prop:=
 (e=.returned (.tuple #[.int .u64 0,.bool false])∧∃A',St w0 w' c A' top last∧Hq A' c.m M')∨
 ∃g A' M2 fq,e=.returned (.tuple #[.int .u64 g,.bool true])∧St w0 w' c A' top last∧Hq A' c.m M2∧Off [] M' M2∧RF M2 g 45 p fq∧W64 g∧∀z,z∈fq→M' z=none
theorem kagain_p{x y:Int}{p:PF}{fp:List Int}(h:St w0 w c A top last)(hp:Hq A c.m M')(hf:RF M' x y p fp):Calls Tryz.prog 81 #[.pointer (some ⟨c.kb,0,none⟩),.int .u64 x] w (AgP w0 c top last M M' p):=by
 obtain⟨n,k1,k2,k3⟩:=hf.again hp;refine(kagain_c n h x (hf.w hp) k1 k2).mono ?_;rintro e w' ⟨rfl,hS⟩;rcases k3 with⟨e1,e2⟩|⟨g,M2,fq,e1,e2,e3,e4,e5,e6⟩
 ·rw[e1];exact .inl ⟨rfl,_,hS,e2⟩
 ·rw[e1];exact .inr ⟨g,_,M2,fq,rfl,hS,e3,e4,e5,e2,e6⟩
def ClP(w0:World)(c:Sk)(top:Int)(last:Value)(M:Mem)(l:List PF)(e:Ending)(w':World):Prop:=
 (e=.returned (.tuple #[.int .u64 45,.bool false,.int .i64 0])∧∃A',St w0 w' c A' top last∧Hq A' c.m M)∨
 ∃o A' M2 fq,e=.returned (.tuple #[.int .u64 o,.bool true,.int .i64 0])∧St w0 w' c A' top last∧Hq A' c.m M2∧Off [] M M2∧RT M2 (some l) o fq∧∀z,z∈fq→M z=none
theorem Dn.tag{d:List PF}{t u:Int}(hp:Hq A c.m M')(h:Dn M M' d t u):W64 t∧W64 u∧(d=[]∧t=45∧u=45∨d≠[]∧u%8=1):=by
 rcases h with⟨rfl,rfl,rfl⟩|⟨d0,q,g1,g2,rfl,k1,k2,k3,k4⟩
 ·exact⟨zG,zG,.inl ⟨rfl,rfl,rfl⟩⟩
 ·refine⟨?_,k2.w hp,.inr ⟨by simp,k2.tag hp⟩⟩;rcases RC.head k1 hp with⟨_,rfl⟩|⟨_,h,_⟩
  ·exact k2.w hp
  ·exact h
theorem Dn.end{l:List PF}{t u:Int}(hp:Hq A c.m M')(hO:Off [] M M')(h:Dn M M' l t u)(hl:l≠[]):
 ((objF A c.m 6 [smW 0,t,u]).2=none∧Hq (objF A c.m 6 [smW 0,t,u]).1 c.m M)∨∃o M2 fq,(objF A c.m 6 [smW 0,t,u]).2=some o∧Hq (objF A c.m 6 [smW 0,t,u]).1 c.m M2∧Off [] M M2∧RT M2 (some l) o fq∧∀z,z∈fq→M z=none:=by
 have hw:=h.tag hp;rcases hp.resum t u hw.1 hw.2.1 with⟨e1,e2⟩|⟨o,M2,e1,e2,e3,e4,O2,R2⟩
 ·exact .inl ⟨e1,e2.back hO⟩
 ·rcases h with⟨h,_⟩|⟨d0,q,g1,g2,rfl,k1,k2,k3,k4⟩
  ·exact absurd h hl
  ·have hn: ∀z,z∈g1++g2→z≠o:=by
    intro z hz hc;subst hc;rcases List.mem_append.1 hz with hz|hz
    ·obtain⟨v,hv,_⟩:=RC.dom k1 z hz;rw[e2]at hv;cases hv
    ·obtain⟨v,hv,_⟩:=k2.dom z hz;rw[e2]at hv;cases hv
   refine .inr ⟨o,M2,o::(g1++g2),e1,e4,hO.trans O2,⟨t,u,d0,q,g1,g2,rfl,R2,RC.off O2 O2.k80 k1 (by simp),k2.off O2 O2.k80 (by simp),rfl,fun hm=>hn o hm rfl,k3⟩, ?_⟩;intro z hz;rcases List.mem_cons.1 hz with rfl|hz
   ·cases hM:M z with
    |none=>rfl
    |some v=>rw[hO z v (by simp) hM]at e2;cases e2
   ·exact k4 z hz
def LpP(w0:World)(c:Sk)(top:Int)(last:Value)(M:Mem)(l:List PF)(d rem:List PF)(t u f:Int)(w:World):Prop:=
 ∃A' M' ff,d++rem=l∧St w0 w c A' top last∧Hq A' c.m M'∧Off [] M M'∧Dn M M' d t u∧RC M 45 rem f ff
set_option maxRecDepth 100000 in
set_option maxHeartbeats 4000000 in
theorem kclone_all(h:St w0 w c A top last)(hp:Hq A c.m M){l:List PF}{ff:List Int}(R:Res M r 0 hi lo)(hc:RC M 45 l hi ff)(hl:l≠[]):
 Calls Tryz.prog 42 #[.pointer (some ⟨c.kb,0,none⟩),.int .u64 r] w (ClP w0 c top last M l):=by
 have hr:=R.ww hp;have CF:=Lib.hid (kfresh_c h r hr);rw[R.fresh hp]at CF;have hg:=(R.g hp (by omega)).2.1;have hiw:W64 hi:=by rw[←hg];exact h.gw _ _
 have CG0:Hid (∀wa,St w0 wa c A top last→Calls Tryz.prog 52 #[.pointer (some ⟨c.kb,0,none⟩),.int .u64 r,.int .i64 1] wa fun e w'=>e=.returned (.int .u64 hi)∧St w0 w' c A top last):=Lib.hid (fun wa ha=>by have:=zU ha r 1 hr (I64.of (by omega));rwa[hg]at this);have L0:Hid (∀wa,St w0 wa c A top last→LpP w0 c top last M l [] l 45 45 hi wa):=Lib.hid (fun wa ha=>⟨A,M,ff,rfl,ha,hp,Off.refl _ _,.inl ⟨rfl,rfl,rfl⟩,hc⟩);have HL:=Lib.hid hl;have H:=Lib.hid h;clear R hc hl hg hp h;go_enter Tryz.func42,Tryz.ntmps42;go_wp2_with (first|(go_at_call 72;refine CF.out.mono ?_;rintro e w1 ⟨rfl,h1⟩)|(go_at_call 49;refine(zK _).mono ?_;rintro e w' ⟨rfl,rfl⟩));refine(CG0.out _ h1).mono ?_;rintro e w2 ⟨rfl,h2⟩;have h2:=Lib.hid (L0.out _ h2);clear CF CG0 h1 L0;go_wp2_with fail
 go_loopg [8,9,10,11] l.length (fun j s8 s9 s10 s11 wr=> ∃(d rem:List PF) (t u f:Int),j=rem.length∧s8=.int .u64 t∧s9=.int .u64 u∧s10=.int .u64 u∧s11=.int .u64 f∧Hid (LpP w0 c top last M l d rem t u f wr))
 case atStart=>exact⟨[],l,45,45,hi,rfl,rfl,rfl,rfl,rfl,h2⟩
 case round=>
  obtain⟨d,rem,t,u,f,rfl,rfl,rfl,rfl,rfl,hP⟩:=hrel;clear h2;obtain⟨A1,M1,f1,e0,S1,p1,O1,D1,C1⟩:=hP.out;have hdw:=D1.tag p1;clear hP;cases rem with
  |nil=>
   have hf:f=45:=C1.1;subst hf;simp only[List.append_nil]at e0;subst e0;have EN:=D1.end p1 O1 HL.out;have CO:Hid (∀wa,St w0 wa c A1 top last→_):=Lib.hid (fun wa ha=>vobj3_c 6 (smW 0) t u (by omega) (zH _) hdw.1 hdw.2.1 ha);have SM:Hid (∀w,_):=Lib.hid (fun w=>zb 0 w (by omega) (by omega));have CK5:Hid (∀wa,Calls Tryz.prog 48 #[.int .u64 45] wa fun e w'=>e=.returned (.int .i64 5)∧wa=w'):=Lib.hid (fun wa=>zx 45 wa (by omega) (by omega));have hS2:=S1;have h1d:=hS2.drew;have k0:=hS2.k0;rcases EN with⟨q1,q2⟩|⟨o,M2,fq,q1,q2,q3,q4,q5⟩
   ·rw[q1]at CO;simp only[zM]at CO;have Q:=Lib.hid q2;clear D1 C1 O1 p1 hdw q1 q2 S1;generalize (objF A1 c.m 6 [smW 0,t,u]).1=A2 at*;generalize smW 0=s0 at*;go_wp2_with fail;refine(CK5.out _).mono ?_;rintro e w' ⟨rfl,rfl⟩;go_wp2;go_region_held3 (fun w_=>w_.cell? ⟨c.kb,0,none⟩=some (.pointer (some ⟨c.sb,0,none⟩))) (with_reducible first|exact St.k0 ‹_›|exact St.k0 (St.drew ‹_›)|exact St.k0 (St.alloc ‹_› _)|exact St.k0 (St.drew (St.alloc ‹_› _))) (first|(go_at_call 62;refine Calls.mono (SM.out _) ?_;rintro e w' ⟨rfl,rfl⟩)|(go_at_call 64;refine Calls.mono (CO.out _ ‹_›) ?_;rintro e w9 ⟨rfl,h9⟩))
    all_goals
     go_wp2_with (first|(go_at_call 49;refine(zK _).mono ?_;rintro e w' ⟨rfl,rfl⟩));go_ret3;exact .inl ⟨rfl,_,h9,Q.out⟩
   ·rw[q1]at CO;simp only[zM]at CO;have Q:Hid (Hq (objF A1 c.m 6 [smW 0,t,u]).1 c.m M2∧Off [] M M2∧RT M2 (some d) o fq∧∀z,z∈fq→M z=none):=Lib.hid ⟨q2,q3,q4,q5⟩;clear D1 C1 O1 p1 hdw q1 q2 q3 q4 q5 S1;generalize (objF A1 c.m 6 [smW 0,t,u]).1=A2 at*;generalize smW 0=s0 at*;go_wp2_with fail;refine(CK5.out _).mono ?_;rintro e w' ⟨rfl,rfl⟩;go_wp2;go_region_held3 (fun w_=>w_.cell? ⟨c.kb,0,none⟩=some (.pointer (some ⟨c.sb,0,none⟩))) (with_reducible first|exact St.k0 ‹_›|exact St.k0 (St.drew ‹_›)|exact St.k0 (St.alloc ‹_› _)|exact St.k0 (St.drew (St.alloc ‹_› _))) (first|(go_at_call 62;refine Calls.mono (SM.out _) ?_;rintro e w' ⟨rfl,rfl⟩)|(go_at_call 64;refine Calls.mono (CO.out _ ‹_›) ?_;rintro e w9 ⟨rfl,h9⟩))
    all_goals
     go_wp2_with (first|(go_at_call 49;refine(zK _).mono ?_;rintro e w' ⟨rfl,rfl⟩));go_ret3;exact .inr ⟨o,_,M2,fq,rfl,h9,Q.out⟩
  |cons p rem=>
   obtain⟨y,fa,fb,R1,C2,rfl,hdis⟩:=C1;have R1':=R1.off O1 O1.k80 (by simp);have hft:=R1'.tag p1;have hfw:=R1'.w p1;have CK0:Hid (∀wa,_):=Lib.hid (fun wa=>zx f wa hfw.1 hfw.2);have hftb:(f%8==1)=true:=by simpa using hft
   have CA:=Lib.hid (kagain_p (M:=M) S1 p1 R1');have HO:=Lib.hid O1;have HD:=Lib.hid D1;have HC:=Lib.hid C2;have HR:=Lib.hid R1;have HE:=Lib.hid e0;have HP:=Lib.hid p1;clear S1 R1' hft C2 R1 e0 p1 O1 D1 hdis;go_wp2_with fail;refine(CK0.out _).mono ?_;rintro e w' ⟨rfl,rfl⟩;go_wp2_with fail;refine CA.out.mono ?_;clear CA CK0;rintro e w3 (⟨rfl,A2,S3,p3⟩|⟨g,A2,M2,fq,rfl,S3,p3,O3,R3,gw,n3⟩)
   ·have Q:=Lib.hid (p3.back HO.out);have S3:=Lib.hid S3;clear p3;go_wp2_with (first|(go_at_call 49;refine(zK _).mono ?_;rintro e w' ⟨rfl,rfl⟩));go_ret3;exact .inl ⟨rfl,_,S3.out,Q.out⟩
   ·have O4:=HO.out.trans O3
    have RM:Hid (∀z,z∈fq→M z=none):=Lib.hid (fun z hz=>by
     cases hM:M z with
     |none=>rfl
     |some v=>have:=n3 z hz;rw[HO.out z v (by simp) hM]at this;cases this)
    rcases hdw.2.2 with⟨rfl,rfl,rfl⟩|⟨hdn,hu1⟩
    ·have CK5:Hid (∀wa,Calls Tryz.prog 48 #[.int .u64 45] wa fun e w'=>e=.returned (.int .i64 5)∧wa=w'):=Lib.hid (fun wa=>zx 45 wa (by omega) (by omega));have hb:gtF A2 c.m f 0=y:=(HR.out.off O4 O4.k80 (by simp)).blw p3;have CG:Hid (∀wa,St w0 wa c A2 top last→Calls Tryz.prog 52 #[.pointer (some ⟨c.kb,0,none⟩),.int .u64 f,.int .i64 0] wa fun e w'=>e=.returned (.int .u64 y)∧St w0 w' c A2 top last):=Lib.hid (fun wa ha=>by have:=zU ha f 0 hfw (I64.of (by omega));rwa[hb]at this);have NX:Hid (∀wa,St w0 wa c A2 top last→LpP w0 c top last M l [p] rem g g y wa):=Lib.hid (fun wa ha=>⟨A2,M2,fb,by simpa using HE.out,ha,p3,O4,Dn.first R3 RM.out,HC.out⟩);have S3:=Lib.hid S3;clear HD O3 R3 n3 hb p3 O4 hdw RM HR HP;go_wp2_with fail;refine(CK5.out _).mono ?_;rintro e w' ⟨rfl,rfl⟩;go_wp2_with fail;refine(CG.out _ S3.out).mono ?_;rintro e w4 ⟨rfl,h4⟩;have h4:=Lib.hid (NX.out _ h4);clear NX CG S3;go_wp2_with fail
     go_roundg rem.length
     case measure=>simp
     case rel=>exact⟨[p],rem,g,g,y,rfl,rfl,rfl,rfl,rfl,h4⟩
    ·have hus:(u%8==1)=true:=by simpa using hu1
     have CKU:Hid (∀wa,_):=Lib.hid (fun wa=>zx u wa hdw.2.1.1 hdw.2.1.2);obtain⟨M3,p4,O5,D5⟩:=HD.out.next p3 HO.out O3 hdn R3 n3;have hb:gtF (stF A2 c.m u 0 g) c.m f 0=y:=(HR.out.off O5 O5.k80 (by simp)).blw p4;have CSE:Hid (∀wa,St w0 wa c A2 top last→_):=Lib.hid (fun wa ha=>zv ha u 0 g hdw.2.1 (I64.of (by omega)) gw);have CG:Hid (∀wa,St w0 wa c (stF A2 c.m u 0 g) top last→Calls Tryz.prog 52 #[.pointer (some ⟨c.kb,0,none⟩),.int .u64 f,.int .i64 0] wa fun e w'=>e=.returned (.int .u64 y)∧St w0 w' c (stF A2 c.m u 0 g) top last):=Lib.hid (fun wa ha=>by have:=zU ha f 0 hfw (I64.of (by omega));rwa[hb]at this);have NX:Hid (∀wa,St w0 wa c (stF A2 c.m u 0 g) top last→LpP w0 c top last M l (d++[p]) rem t g y wa):=Lib.hid (fun wa ha=>⟨_,M3,fb,by simpa using HE.out,ha,p4,O5,D5,HC.out⟩);have S3:=Lib.hid S3;clear HD O3 R3 n3 hb p3 O4 hdw RM HR HP p4 O5 D5 hu1 hdn;generalize stF A2 c.m u 0 g=A3 at*;go_wp2_with fail;refine(CKU.out _).mono ?_;rintro e w' ⟨rfl,rfl⟩;go_wp2_with fail;refine(CSE.out _ S3.out).mono ?_;rintro e w4 ⟨rfl,h4⟩;have h4:=Lib.hid h4;clear CSE S3;go_wp2_with fail;refine(CG.out _ h4.out).mono ?_;rintro e w5 ⟨rfl,h5⟩;have h5:=Lib.hid (NX.out _ h5);clear NX CG h4;go_wp2_with fail
     go_roundg rem.length
     case measure=>simp
     case rel=>exact⟨d++[p],rem,t,g,y,rfl,rfl,rfl,rfl,rfl,h5⟩
end
end Go.Proofs.YtghkahcogphomaaGreat
