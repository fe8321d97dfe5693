/-
 The pieces of the generated modules' texts as items;each declaration with finitely many forms is read.
-/
import Derived.Test.YtggmccicdhnkgaaGreatZPd
set_option linter.all false
namespace Go.Rf
open Go.RowKit
def noneSuch:Bs:=[110,111,110,101,32,115,117,99,104]
def SegP(k:Int)(its:List It):Prop:=(∀nx,okI nx its=true)/\∀(p n:Int) (rest:List Tk),∃d:De,d.kind=k/\limD d=false/\(d.name.data.toList==noneSuch)=false/\pDecl n 200 (tksI p its++rest)=some (d,rest)
def sumD(x:De×List Tk):Int×Bool×Bool×List Tk:=(x.1.kind,limD x.1,x.1.name.data.toList==noneSuch,x.2)
theorem segOf{k:Int}{its:List It}(h1:∀nx,okI nx its=true)(h:∀(p n:Int) (rest:List Tk),(pDecl n 200 (tksI p its++rest)).map sumD=some (k,false,false,rest)):SegP k its:=by
 refine⟨h1,fun p n rest=>?_⟩;have:=h p n rest;cases hd:pDecl n 200 (tksI p its++rest)with
 |none=>rw[hd]at this;cases this
 |some x=>
  rw[hd]at this;obtain⟨d,r⟩:=x;simp only[Option.map_some,Option.some.injEq,sumD,Prod.mk.injEq]at this;obtain⟨h1,h2,h3,h4⟩:=this;exact⟨d,h1,h2,h3,by rw[h4]⟩
def c_Color0:List It:=[.tk [116,121,112,101],.bl 32,.tk [67,111,108,111,114],.bl 32,.tk [61],.bl 32,.tk [82,101,100],.bl 32,.tk [124],.bl 32,.tk [71,114,101,101,110],.bl 32,.tk [124],.bl 32,.tk [66,108,117,101],.tk [40],.tk [105,110,116],.tk [41],.tk [59],.bl 10]
theorem s_Color:SegP 0 (c_Color0):=by
 exact Ybw
def c_Tree0:List It:=[.tk [116,121,112,101],.bl 32,.tk [84,114,101,101],.bl 32,.tk [61],.bl 32,.tk [76,101,97,102],.bl 32,.tk [124],.bl 32,.tk [70,111,114,107],.tk [40],.tk [84,114,101,101],.tk [44],.bl 32,.tk [105,110,116],.tk [44],.bl 32,.tk [84,114,101,101],.tk [41],.tk [59],.bl 10]
theorem s_Tree:SegP 0 (c_Tree0):=by
 exact Ybw
def c_depth0:List It:=[.tk [102,117,110],.bl 32,.tk [100,101,112,116,104],.tk [40],.tk [116],.tk [58],.bl 32,.tk [84,114,101,101],.tk [41],.tk [58],.bl 32,.tk [105,110,116],.bl 32,.tk [61],.bl 32,.tk [109,97,116,99,104],.bl 32,.tk [116],.bl 32,.tk [123],.bl 32,.tk [76,101,97,102],.bl 32,.tk [45,62],.bl 32,.tk [48],.tk [59],.bl 32,.tk [70,111,114,107],.tk [40],.tk [97],.tk [44],.bl 32,.tk [120],.tk [44],.bl 32,.tk [98],.tk [41],.bl 32,.tk [45,62],.bl 32,.tk [49],.bl 32,.tk [43],.bl 32,.tk [109,97,120],.tk [40],.tk [100,101,112,116,104],.tk [40],.tk [97],.tk [41],.tk [44],.bl 32,.tk [100,101,112,116,104],.tk [40],.tk [98],.tk [41],.tk [41],.bl 32,.tk [125],.tk [59],.bl 10]
theorem s_depth:SegP 1 (c_depth0):=by
 exact Ybw
def c_sum0:List It:=[.tk [102,117,110],.bl 32,.tk [115,117,109],.tk [40],.tk [116],.tk [58],.bl 32,.tk [84,114,101,101],.tk [41],.tk [58],.bl 32,.tk [105,110,116],.bl 32,.tk [61],.bl 32,.tk [109,97,116,99,104],.bl 32,.tk [116],.bl 32,.tk [123],.bl 32,.tk [76,101,97,102],.bl 32,.tk [45,62],.bl 32]
def o_sum1:List (List It):=[[.tk [48]],[.tk [49]]]
def c_sum2:List It:=[.tk [59],.bl 32,.tk [70,111,114,107],.tk [40],.tk [97],.tk [44],.bl 32,.tk [120],.tk [44],.bl 32,.tk [98],.tk [41],.bl 32,.tk [45,62],.bl 32,.tk [115,117,109],.tk [40],.tk [97],.tk [41],.bl 32,.tk [43],.bl 32,.tk [120],.bl 32,.tk [43],.bl 32,.tk [115,117,109],.tk [40],.tk [98],.tk [41],.bl 32,.tk [125],.tk [59],.bl 10]
theorem s_sum(x1:List It)(h1:x1∈o_sum1):SegP 1 (c_sum0++(x1++c_sum2)):=by
 simp only[o_sum1,List.mem_cons,List.not_mem_nil,or_false]at h1;exact Ydg
def c_score0:List It:=[.tk [102,117,110],.bl 32,.tk [115,99,111,114,101],.tk [40],.tk [99],.tk [58],.bl 32,.tk [67,111,108,111,114],.tk [41],.tk [58],.bl 32,.tk [105,110,116],.bl 32,.tk [61],.bl 32,.tk [109,97,116,99,104],.bl 32,.tk [99],.bl 32,.tk [123],.bl 32,.tk [66,108,117,101],.tk [40],.tk [110],.tk [41],.bl 32,.tk [45,62],.bl 32,.tk [110],.bl 32,.tk [43],.bl 32]
def o_score1:List (List It):=[[.tk [48]],[.tk [49]],[.tk [50]]]
def c_score2:List It:=[.tk [59],.bl 32,.tk [82,101,100],.bl 32,.tk [45,62],.bl 32]
def o_score3:List (List It):=[[.tk [48]],[.tk [49]],[.tk [50]],[.tk [51]]]
def c_score4:List It:=[.tk [59],.bl 32,.tk [71,114,101,101,110],.bl 32,.tk [45,62],.bl 32]
def o_score5:List (List It):=[[.tk [48]],[.tk [49]],[.tk [50]],[.tk [51]]]
def c_score6:List It:=[.bl 32,.tk [125],.tk [59],.bl 10]
theorem s_score(x1:List It)(h1:x1∈o_score1)(x3:List It)(h3:x3∈o_score3)(x5:List It)(h5:x5∈o_score5):SegP 1 (c_score0++(x1++(c_score2++(x3++(c_score4++(x5++c_score6)))))):=by
 simp only[o_score1,List.mem_cons,List.not_mem_nil,or_false]at h1;rcases h1 with rfl|rfl|rfl
 all_goals (simp only[o_score3,List.mem_cons,List.not_mem_nil,or_false]at h3;rcases h3 with rfl|rfl|rfl|rfl)
 all_goals (simp only[o_score5,List.mem_cons,List.not_mem_nil,or_false]at h5;rcases h5 with rfl|rfl|rfl|rfl)
 all_goals exact segOf (fun nx=>by kernel_rfl) (fun p n rest=>by kernel_rfl)
def c_f0:List It:=[.tk [102,117,110],.bl 32,.tk [102],.tk [40],.tk [120],.tk [58],.bl 32,.tk [105,110,116],.tk [44],.bl 32,.tk [121],.tk [58],.bl 32,.tk [105,110,116],.tk [41],.tk [58],.bl 32,.tk [105,110,116],.bl 32,.tk [61],.bl 32]
def c_f2:List It:=[.tk [59],.bl 10]
def c_ok0:List It:=[.tk [102,117,110],.bl 32,.tk [111,107],.tk [40],.tk [120],.tk [58],.bl 32,.tk [105,110,116],.tk [41],.tk [58],.bl 32,.tk [98,111,111,108],.bl 32,.tk [61],.bl 32]
def c_ok2:List It:=[.tk [59],.bl 10]
def c_num0:List It:=[.tk [103,101,110],.bl 32,.tk [110,117,109],.tk [40],.tk [110],.tk [58],.bl 32,.tk [105,110,116],.tk [41],.tk [58],.bl 32,.tk [105,110,116],.bl 32,.tk [61],.bl 32,.tk [111,110,101],.bl 32,.tk [123],.bl 32]
def o_num1:List (List It):=[[.tk [49]],[.tk [50]],[.tk [51]]]
def c_num2:List It:=[.tk [58],.bl 32,.tk [112,105,99,107],.bl 32,.tk [48],.tk [46,46],.tk [110],.tk [59],.bl 32,.tk [49],.tk [58],.bl 32,.tk [114,101,116,117,114,110],.bl 32]
def o_num3:List (List It):=[[.tk [48]],[.tk [49]],[.tk [50]],[.tk [51]]]
def c_num4:List It:=[.tk [59],.bl 32,.tk [49],.tk [58],.bl 32,.tk [112,105,99,107],.bl 32,.tk [48],.tk [46,46],.tk [110],.bl 32,.tk [119,104,101,114,101],.bl 32,.tk [120],.tk [58],.bl 32,.tk [111,107],.tk [40],.tk [120],.tk [41],.bl 32,.tk [111,114],.bl 32,.tk [120],.bl 32,.tk [61,61],.bl 32,.tk [48],.bl 32,.tk [125],.tk [59],.bl 10]
theorem s_num(x1:List It)(h1:x1∈o_num1)(x3:List It)(h3:x3∈o_num3):SegP 2 (c_num0++(x1++(c_num2++(x3++c_num4)))):=by
 simp only[o_num1,List.mem_cons,List.not_mem_nil,or_false]at h1;rcases h1 with rfl|rfl|rfl
 all_goals (simp only[o_num3,List.mem_cons,List.not_mem_nil,or_false]at h3;rcases h3 with rfl|rfl|rfl|rfl)
 all_goals exact segOf (fun nx=>by kernel_rfl) (fun p n rest=>by kernel_rfl)
def c_color0:List It:=[.tk [103,101,110],.bl 32,.tk [99,111,108,111,114],.tk [40],.tk [41],.tk [58],.bl 32,.tk [67,111,108,111,114],.bl 32,.tk [61],.bl 32,.tk [111,110,101],.bl 32,.tk [123],.bl 32,.tk [49],.tk [58],.bl 32,.tk [109,97,107,101],.bl 32,.tk [82,101,100],.tk [40],.tk [41],.tk [59],.bl 32]
def o_color1:List (List It):=[[.tk [49]],[.tk [50]]]
def c_color2:List It:=[.tk [58],.bl 32,.tk [109,97,107,101],.bl 32,.tk [71,114,101,101,110],.tk [40],.tk [41],.tk [59],.bl 32,.tk [49],.tk [58],.bl 32,.tk [109,97,107,101],.bl 32,.tk [66,108,117,101],.tk [40],.tk [110,117,109],.tk [40]]
def o_color3:List (List It):=[[.tk [48]],[.tk [49]],[.tk [50]]]
def c_color4:List It:=[.tk [41],.tk [41],.bl 32,.tk [125],.tk [59],.bl 10]
theorem s_color(x1:List It)(h1:x1∈o_color1)(x3:List It)(h3:x3∈o_color3):SegP 2 (c_color0++(x1++(c_color2++(x3++c_color4)))):=by
 simp only[o_color1,List.mem_cons,List.not_mem_nil,or_false]at h1;rcases h1 with rfl|rfl
 all_goals (simp only[o_color3,List.mem_cons,List.not_mem_nil,or_false]at h3;rcases h3 with rfl|rfl|rfl)
 all_goals exact segOf (fun nx=>by kernel_rfl) (fun p n rest=>by kernel_rfl)
def c_tree0:List It:=[.tk [103,101,110],.bl 32,.tk [116,114,101,101],.tk [40],.tk [110],.tk [58],.bl 32,.tk [105,110,116],.tk [41],.tk [58],.bl 32,.tk [84,114,101,101],.bl 32,.tk [100,101,112,116,104],.bl 32]
def o_tree1:List (List It):=[[.tk [49]],[.tk [50]],[.tk [51]]]
def c_tree2:List It:=[.bl 32,.tk [61],.bl 32,.tk [111,110,101],.bl 32,.tk [123],.bl 32,.tk [50],.tk [58],.bl 32,.tk [109,97,107,101],.bl 32,.tk [76,101,97,102],.tk [40],.tk [41],.tk [59],.bl 32,.tk [49],.tk [58],.bl 32,.tk [109,97,107,101],.bl 32,.tk [70,111,114,107],.tk [40],.tk [116,114,101,101],.tk [40],.tk [110],.tk [41],.tk [44],.bl 32,.tk [112,105,99,107],.bl 32,.tk [48],.tk [46,46],.tk [110],.tk [44],.bl 32,.tk [116,114,101,101],.tk [40],.tk [110],.tk [41],.tk [41],.bl 32,.tk [125],.tk [59],.bl 10]
theorem s_tree(x1:List It)(h1:x1∈o_tree1):SegP 2 (c_tree0++(x1++c_tree2)):=by
 simp only[o_tree1,List.mem_cons,List.not_mem_nil,or_false]at h1;exact Ydc
def c_nums0:List It:=[.tk [103,101,110],.bl 32,.tk [110,117,109,115],.tk [40],.tk [41],.tk [58],.bl 32,.tk [91],.tk [105,110,116],.tk [93],.bl 32,.tk [61],.bl 32,.tk [108,105,115,116],.bl 32]
def o_nums1:List (List It):=[[.tk [48]],[.tk [49]]]
def c_nums2:List It:=[.tk [46,46],.tk [50],.bl 32,.tk [111,102],.bl 32,.tk [110,117,109],.tk [40]]
def o_nums3:List (List It):=[[.tk [48]],[.tk [49]],[.tk [50]]]
def c_nums4:List It:=[.tk [41],.tk [59],.bl 10]
theorem s_nums(x1:List It)(h1:x1∈o_nums1)(x3:List It)(h3:x3∈o_nums3):SegP 2 (c_nums0++(x1++(c_nums2++(x3++c_nums4)))):=by
 simp only[o_nums1,List.mem_cons,List.not_mem_nil,or_false]at h1;rcases h1 with rfl|rfl
 all_goals (simp only[o_nums3,List.mem_cons,List.not_mem_nil,or_false]at h3;rcases h3 with rfl|rfl|rfl)
 all_goals exact segOf (fun nx=>by kernel_rfl) (fun p n rest=>by kernel_rfl)
def c_pair0:List It:=[.tk [103,101,110],.bl 32,.tk [112,97,105,114],.tk [40],.tk [41],.tk [58],.bl 32,.tk [91],.tk [105,110,116],.tk [93],.bl 32,.tk [61],.bl 32,.tk [108,101,116],.bl 32,.tk [97],.bl 32,.tk [60,45],.bl 32,.tk [112,105,99,107],.bl 32,.tk [48],.tk [46,46],.tk [50],.bl 32,.tk [105,110],.bl 32,.tk [108,101,116],.bl 32,.tk [98],.bl 32,.tk [60,45],.bl 32,.tk [112,105,99,107],.bl 32,.tk [97],.tk [46,46]]
def o_pair1:List (List It):=[[.tk [50]],[.tk [51]]]
def c_pair2:List It:=[.bl 32,.tk [105,110],.bl 32,.tk [114,101,116,117,114,110],.bl 32,.tk [91],.tk [97],.tk [44],.bl 32,.tk [98],.tk [93],.tk [59],.bl 10]
theorem s_pair(x1:List It)(h1:x1∈o_pair1):SegP 2 (c_pair0++(x1++c_pair2)):=by
 simp only[o_pair1,List.mem_cons,List.not_mem_nil,or_false]at h1;exact Ydg
def c_small0:List It:=[.tk [112,114,111,112],.bl 32,.tk [115,109,97,108,108],.tk [40],.tk [116],.tk [58],.bl 32,.tk [84,114,101,101],.bl 32,.tk [60,45],.bl 32,.tk [116,114,101,101],.tk [40],.tk [49],.tk [41],.tk [44],.bl 32,.tk [110],.tk [58],.bl 32,.tk [105,110,116],.bl 32,.tk [60,45],.bl 32,.tk [110,117,109],.tk [40],.tk [50],.tk [41],.tk [41],.bl 32,.tk [123],.bl 32,.tk [99,104,101,99,107],.bl 32,.tk [108,111,119],.tk [58],.bl 32,.tk [100,101,112,116,104],.tk [40],.tk [116],.tk [41],.bl 32,.tk [60,61],.bl 32,.tk [110],.bl 32,.tk [43],.bl 32]
def o_small1:List (List It):=[[.tk [48]],[.tk [49]],[.tk [50]]]
def c_small2:List It:=[.tk [59],.bl 32,.tk [99,104,101,99,107],.bl 32,.tk [116,111,116,97,108],.tk [58],.bl 32,.tk [115,117,109],.tk [40],.tk [116],.tk [41],.bl 32,.tk [60,61],.bl 32]
def o_small3:List (List It):=[[.tk [48]],[.tk [49]],[.tk [50]],[.tk [51]],[.tk [52]]]
def c_small4:List It:=[.tk [59],.bl 32,.tk [99,108,97,115,115],.bl 32,.tk [100,101,101,112],.tk [58],.bl 32,.tk [50],.bl 32,.tk [60,61],.bl 32,.tk [100,101,112,116,104],.tk [40],.tk [116],.tk [41],.tk [59],.bl 32,.tk [99,108,97,115,115],.bl 32,.tk [111,100,100],.tk [58],.bl 32,.tk [110],.bl 32,.tk [61,61],.bl 32,.tk [49],.tk [59],.bl 32,.tk [99,108,97,105,109],.bl 32,.tk [100,101,101,112],.bl 32,.tk [49],.tk [47],.tk [52],.tk [59],.bl 32,.tk [125],.bl 10]
theorem s_small(x1:List It)(h1:x1∈o_small1)(x3:List It)(h3:x3∈o_small3):SegP 3 (c_small0++(x1++(c_small2++(x3++c_small4)))):=by
 simp only[o_small1,List.mem_cons,List.not_mem_nil,or_false]at h1;rcases h1 with rfl|rfl|rfl
 all_goals (simp only[o_small3,List.mem_cons,List.not_mem_nil,or_false]at h3;rcases h3 with rfl|rfl|rfl|rfl|rfl)
 all_goals exact segOf (fun nx=>by kernel_rfl) (fun p n rest=>by kernel_rfl)
def c_lists0:List It:=[.tk [112,114,111,112],.bl 32,.tk [108,105,115,116,115],.tk [40],.tk [118],.tk [58],.bl 32,.tk [91],.tk [105,110,116],.tk [93],.bl 32,.tk [60,45],.bl 32,.tk [110,117,109,115],.tk [40],.tk [41],.tk [41],.bl 32,.tk [123],.bl 32,.tk [99,104,101,99,107],.bl 32,.tk [98,111,117,110,100],.tk [58],.bl 32,.tk [115,105,122,101],.tk [40],.tk [118],.tk [41],.bl 32,.tk [60],.bl 32]
def o_lists1:List (List It):=[[.tk [50]],[.tk [51]]]
def c_lists2:List It:=[.bl 32,.tk [111,114],.bl 32,.tk [102],.tk [40],.tk [97,116],.tk [40],.tk [118],.tk [44],.bl 32,.tk [48],.tk [41],.tk [44],.bl 32,.tk [115,105,122,101],.tk [40],.tk [118],.tk [41],.tk [41],.bl 32,.tk [60],.bl 32]
def o_lists3:List (List It):=[[.tk [48]],[.tk [49]],[.tk [50]],[.tk [51]],[.tk [52]],[.tk [53]],[.tk [54]],[.tk [55]],[.tk [56]],[.tk [57]]]
def c_lists4:List It:=[.tk [59],.bl 32,.tk [99,108,97,115,115],.bl 32,.tk [101,109,112,116,121],.tk [58],.bl 32,.tk [115,105,122,101],.tk [40],.tk [118],.tk [41],.bl 32,.tk [61,61],.bl 32,.tk [48],.tk [59],.bl 32,.tk [99,108,97,105,109],.bl 32,.tk [101,109,112,116,121],.bl 32,.tk [49],.tk [47],.tk [53],.tk [59],.bl 32,.tk [125],.bl 10]
theorem s_lists(x1:List It)(h1:x1∈o_lists1)(x3:List It)(h3:x3∈o_lists3):SegP 3 (c_lists0++(x1++(c_lists2++(x3++c_lists4)))):=by
 simp only[o_lists1,List.mem_cons,List.not_mem_nil,or_false]at h1;rcases h1 with rfl|rfl
 all_goals (simp only[o_lists3,List.mem_cons,List.not_mem_nil,or_false]at h3;rcases h3 with rfl|rfl|rfl|rfl|rfl|rfl|rfl|rfl|rfl|rfl)
 all_goals exact segOf (fun nx=>by kernel_rfl) (fun p n rest=>by kernel_rfl)
def c_colors0:List It:=[.tk [112,114,111,112],.bl 32,.tk [99,111,108,111,114,115],.tk [40],.tk [99],.tk [58],.bl 32,.tk [67,111,108,111,114],.bl 32,.tk [60,45],.bl 32,.tk [99,111,108,111,114],.tk [40],.tk [41],.tk [44],.bl 32,.tk [120],.tk [58],.bl 32,.tk [105,110,116],.bl 32,.tk [60,45],.bl 32,.tk [112,105,99,107],.bl 32,.tk [48],.tk [46,46],.tk [51],.tk [41],.bl 32,.tk [123],.bl 32,.tk [99,104,101,99,107],.bl 32,.tk [102,105,114,115,116],.tk [58],.bl 32]
def c_colors2:List It:=[.tk [59],.bl 32,.tk [99,108,97,115,115],.bl 32,.tk [114,101,100],.tk [58],.bl 32,.tk [99],.bl 32,.tk [61,61],.bl 32,.tk [82,101,100],.tk [59],.bl 32,.tk [125],.bl 10]
def c_pairs0:List It:=[.tk [112,114,111,112],.bl 32,.tk [112,97,105,114,115],.tk [40],.tk [112],.tk [58],.bl 32,.tk [91],.tk [105,110,116],.tk [93],.bl 32,.tk [60,45],.bl 32,.tk [112,97,105,114],.tk [40],.tk [41],.tk [44],.bl 32,.tk [113],.tk [58],.bl 32,.tk [105,110,116],.bl 32,.tk [60,45],.bl 32,.tk [112,105,99,107],.bl 32,.tk [48],.tk [46,46],.tk [51],.tk [41],.bl 32,.tk [123],.bl 32,.tk [99,104,101,99,107],.bl 32,.tk [111,114,100,101,114],.tk [58],.bl 32,.tk [97,116],.tk [40],.tk [112],.tk [44],.bl 32,.tk [48],.tk [41],.bl 32,.tk [60,61],.bl 32,.tk [97,116],.tk [40],.tk [112],.tk [44],.bl 32,.tk [49],.tk [41],.tk [59],.bl 32,.tk [99,104,101,99,107],.bl 32,.tk [108,101,115,115],.tk [58],.bl 32,.tk [113],.bl 32,.tk [60],.bl 32]
def o_pairs1:List (List It):=[[.tk [49]],[.tk [50]],[.tk [51]],[.tk [52]]]
def c_pairs2:List It:=[.tk [59],.bl 32,.tk [99,108,97,115,115],.bl 32,.tk [115,97,109,101],.tk [58],.bl 32,.tk [97,116],.tk [40],.tk [112],.tk [44],.bl 32,.tk [48],.tk [41],.bl 32,.tk [61,61],.bl 32,.tk [113],.tk [59],.bl 32,.tk [125],.bl 10]
theorem s_pairs(x1:List It)(h1:x1∈o_pairs1):SegP 3 (c_pairs0++(x1++c_pairs2)):=by
 simp only[o_pairs1,List.mem_cons,List.not_mem_nil,or_false]at h1;rcases h1 with rfl|rfl|rfl|rfl
 all_goals exact segOf (fun nx=>by kernel_rfl) (fun p n rest=>by kernel_rfl)
def c_flaky0:List It:=[.tk [112,114,111,112],.bl 32,.tk [102,108,97,107,121],.tk [40],.tk [120],.tk [58],.bl 32,.tk [105,110,116],.bl 32,.tk [60,45],.bl 32,.tk [112,105,99,107],.bl 32,.tk [48],.tk [46,46],.tk [51],.tk [41],.bl 32,.tk [123],.bl 32,.tk [99,104,101,99,107],.bl 32,.tk [99,111,105,110],.tk [58],.bl 32,.tk [120],.bl 32,.tk [60],.bl 32,.tk [50],.bl 32,.tk [111,114],.bl 32,.tk [102,108,105,112],.tk [40]]
def o_flaky1:List (List It):=[[.tk [49]],[.tk [50]],[.tk [51]]]
def c_flaky2:List It:=[.tk [41],.bl 32,.tk [61,61],.bl 32,.tk [48],.tk [59],.bl 32,.tk [125],.bl 10]
theorem s_flaky(x1:List It)(h1:x1∈o_flaky1):SegP 3 (c_flaky0++(x1++c_flaky2)):=by
 simp only[o_flaky1,List.mem_cons,List.not_mem_nil,or_false]at h1;exact Ydc
def c_queue0:List It:=[.tk [109,111,100,101,108],.bl 32,.tk [113,117,101,117,101],.tk [40],.tk [115],.tk [58],.bl 32,.tk [91],.tk [105,110,116],.tk [93],.bl 32,.tk [61],.bl 32,.tk [91],.tk [93],.tk [41],.bl 32,.tk [123],.bl 32,.tk [99,111,109,109,97,110,100],.bl 32,.tk [112,117,116],.tk [40],.tk [120],.tk [58],.bl 32,.tk [105,110,116],.bl 32,.tk [60,45],.bl 32,.tk [112,105,99,107],.bl 32,.tk [48],.tk [46,46],.tk [50],.tk [41],.bl 32,.tk [112,114,101],.bl 32,.tk [115,105,122,101],.tk [40],.tk [115],.tk [41],.bl 32,.tk [60],.bl 32,.tk [50],.bl 32,.tk [110,101,120,116],.bl 32,.tk [112,117,115,104],.tk [40],.tk [115],.tk [44],.bl 32,.tk [120],.tk [41],.bl 32,.tk [112,111,115,116],.bl 32,.tk [114],.bl 32,.tk [61,61],.bl 32,.tk [48],.tk [59],.bl 32,.tk [99,111,109,109,97,110,100],.bl 32,.tk [103,101,116],.tk [40],.tk [41],.bl 32,.tk [112,114,101],.bl 32,.tk [48],.bl 32,.tk [60],.bl 32,.tk [115,105,122,101],.tk [40],.tk [115],.tk [41],.bl 32,.tk [110,101,120,116],.bl 32,.tk [100,114,111,112],.tk [40],.tk [115],.tk [44],.bl 32,.tk [49],.tk [41],.bl 32,.tk [112,111,115,116],.bl 32,.tk [114],.bl 32,.tk [61,61],.bl 32,.tk [97,116],.tk [40],.tk [115],.tk [44],.bl 32,.tk [48],.tk [41],.tk [59],.bl 32,.tk [125],.bl 10]
theorem s_queue:SegP 4 (c_queue0):=by
 exact Ybw
def c_ring0:List It:=[.tk [115,121,115,116,101,109],.bl 32,.tk [114,105,110,103],.tk [40],.tk [115],.tk [58],.bl 32,.tk [91],.tk [105,110,116],.tk [93],.bl 32,.tk [61],.bl 32,.tk [91],.tk [93],.tk [41],.bl 32,.tk [114,101,99,111,118,101,114],.bl 32,.tk [91],.tk [93],.bl 32,.tk [123],.bl 32,.tk [111,112],.bl 32,.tk [112,117,116],.tk [40],.tk [120],.tk [58],.bl 32,.tk [105,110,116],.tk [41],.bl 32,.tk [123],.bl 32]
def o_ring1:List (List It):=[[.tk [115,116,101,112],.bl 32,.tk [112,117,115,104],.tk [40],.tk [115],.tk [44],.bl 32,.tk [120],.tk [41],.tk [44],.bl 32,.tk [48],.tk [59]],[.tk [115,116,101,112],.bl 32,.tk [115],.tk [44],.bl 32,.tk [115,105,122,101],.tk [40],.tk [115],.tk [41],.tk [59],.bl 32,.tk [115,116,101,112],.bl 32,.tk [112,117,115,104],.tk [40],.tk [115],.tk [44],.bl 32,.tk [120],.tk [41],.tk [44],.bl 32,.tk [105,102],.bl 32,.tk [108],.bl 32,.tk [60],.bl 32,.tk [50],.bl 32,.tk [116,104,101,110],.bl 32,.tk [48],.bl 32,.tk [101,108,115,101],.bl 32,.tk [49],.tk [59]]]
def c_ring2:List It:=[.bl 32,.tk [125],.bl 32,.tk [111,112],.bl 32,.tk [103,101,116],.tk [40],.tk [41],.bl 32,.tk [123],.bl 32]
def o_ring3:List (List It):=[[.tk [115,116,101,112],.bl 32,.tk [100,114,111,112],.tk [40],.tk [115],.tk [44],.bl 32,.tk [49],.tk [41],.tk [44],.bl 32,.tk [97,116],.tk [40],.tk [115],.tk [44],.bl 32,.tk [48],.tk [41],.tk [59]],[.tk [115,116,101,112],.bl 32,.tk [116,97,107,101],.tk [40],.tk [115],.tk [44],.bl 32,.tk [115,105,122,101],.tk [40],.tk [115],.tk [41],.bl 32,.tk [45],.bl 32,.tk [49],.tk [41],.tk [44],.bl 32,.tk [97,116],.tk [40],.tk [115],.tk [44],.bl 32,.tk [115,105,122,101],.tk [40],.tk [115],.tk [41],.bl 32,.tk [45],.bl 32,.tk [49],.tk [41],.tk [59]],[.tk [115,116,101,112],.bl 32,.tk [115],.tk [44],.bl 32,.tk [97,116],.tk [40],.tk [115],.tk [44],.bl 32,.tk [48],.tk [41],.tk [59],.bl 32,.tk [115,116,101,112],.bl 32,.tk [100,114,111,112],.tk [40],.tk [115],.tk [44],.bl 32,.tk [49],.tk [41],.tk [44],.bl 32,.tk [108],.tk [59]]]
def c_ring4:List It:=[.bl 32,.tk [125],.bl 32,.tk [125],.bl 10]
theorem s_ring(x1:List It)(h1:x1∈o_ring1)(x3:List It)(h3:x3∈o_ring3):SegP 5 (c_ring0++(x1++(c_ring2++(x3++c_ring4)))):=by
 simp only[o_ring1,List.mem_cons,List.not_mem_nil,or_false]at h1;rcases h1 with rfl|rfl
 all_goals (simp only[o_ring3,List.mem_cons,List.not_mem_nil,or_false]at h3;rcases h3 with rfl|rfl|rfl)
 all_goals exact segOf (fun nx=>by kernel_rfl) (fun p n rest=>by kernel_rfl)
def c_counter0:List It:=[.tk [109,111,100,101,108],.bl 32,.tk [99,111,117,110,116,101,114],.tk [40],.tk [115],.tk [58],.bl 32,.tk [105,110,116],.bl 32,.tk [61],.bl 32,.tk [48],.tk [41],.bl 32,.tk [123],.bl 32,.tk [99,111,109,109,97,110,100],.bl 32,.tk [105,110,99],.tk [40],.tk [41],.bl 32,.tk [112,114,101],.bl 32,.tk [115],.bl 32,.tk [60],.bl 32,.tk [52],.bl 32,.tk [110,101,120,116],.bl 32,.tk [115],.bl 32,.tk [43],.bl 32,.tk [49],.bl 32,.tk [112,111,115,116],.bl 32,.tk [114],.bl 32,.tk [61,61],.bl 32,.tk [115],.bl 32,.tk [43],.bl 32,.tk [49],.tk [59],.bl 32,.tk [99,111,109,109,97,110,100],.bl 32,.tk [114,101,97,100],.tk [40],.tk [41],.bl 32,.tk [112,114,101],.bl 32,.tk [116,114,117,101],.bl 32,.tk [110,101,120,116],.bl 32,.tk [115],.bl 32,.tk [112,111,115,116],.bl 32,.tk [114],.bl 32,.tk [61,61],.bl 32,.tk [115],.tk [59],.bl 32,.tk [99,111,109,109,97,110,100],.bl 32,.tk [97,100,100],.tk [40],.tk [121],.tk [58],.bl 32,.tk [105,110,116],.bl 32,.tk [60,45],.bl 32,.tk [114,101,115,117,108,116],.tk [44],.bl 32,.tk [122],.tk [58],.bl 32,.tk [105,110,116],.bl 32,.tk [60,45],.bl 32,.tk [112,105,99,107],.bl 32,.tk [48],.tk [46,46],.tk [49],.tk [41],.bl 32,.tk [112,114,101],.bl 32,.tk [121],.bl 32,.tk [60],.bl 32,.tk [51],.bl 32,.tk [110,101,120,116],.bl 32,.tk [115],.bl 32,.tk [43],.bl 32,.tk [121],.bl 32,.tk [43],.bl 32,.tk [122],.bl 32,.tk [112,111,115,116],.bl 32,.tk [114],.bl 32,.tk [61,61],.bl 32,.tk [115],.bl 32,.tk [43],.bl 32,.tk [121],.bl 32,.tk [43],.bl 32,.tk [122],.tk [59],.bl 32,.tk [125],.bl 10]
theorem s_counter:SegP 4 (c_counter0):=by
 exact Ybw
def c_cell0:List It:=[.tk [115,121,115,116,101,109],.bl 32,.tk [99,101,108,108],.tk [40],.tk [115],.tk [58],.bl 32,.tk [105,110,116],.bl 32,.tk [61],.bl 32,.tk [48],.tk [41],.bl 32,.tk [114,101,99,111,118,101,114],.bl 32]
def o_cell1:List (List It):=[[.tk [48]],[.tk [115]]]
def c_cell2:List It:=[.bl 32,.tk [123],.bl 32,.tk [111,112],.bl 32,.tk [105,110,99],.tk [40],.tk [41],.bl 32,.tk [123],.bl 32]
def o_cell3:List (List It):=[[.tk [115,116,101,112],.bl 32,.tk [115],.bl 32,.tk [43],.bl 32,.tk [49],.tk [44],.bl 32,.tk [115],.bl 32,.tk [43],.bl 32,.tk [49],.tk [59]],[.tk [115,116,101,112],.bl 32,.tk [115],.tk [44],.bl 32,.tk [115],.tk [59],.bl 32,.tk [115,116,101,112],.bl 32,.tk [108],.bl 32,.tk [43],.bl 32,.tk [49],.tk [44],.bl 32,.tk [108],.bl 32,.tk [43],.bl 32,.tk [49],.tk [59]],[.tk [115,116,101,112],.bl 32,.tk [115],.tk [44],.bl 32,.tk [115],.tk [59],.bl 32,.tk [115,116,101,112],.bl 32,.tk [115],.bl 32,.tk [43],.bl 32,.tk [49],.tk [44],.bl 32,.tk [115],.bl 32,.tk [43],.bl 32,.tk [49],.tk [59]],[.tk [115,116,101,112],.bl 32,.tk [115],.bl 32,.tk [43],.bl 32,.tk [49],.tk [44],.bl 32,.tk [105,102],.bl 32,.tk [102,108,105,112],.tk [40],.tk [53],.tk [41],.bl 32,.tk [60],.bl 32,.tk [52],.bl 32,.tk [116,104,101,110],.bl 32,.tk [115],.bl 32,.tk [43],.bl 32,.tk [49],.bl 32,.tk [101,108,115,101],.bl 32,.tk [115],.tk [59]]]
def c_cell4:List It:=[.bl 32,.tk [125],.bl 32,.tk [111,112],.bl 32,.tk [114,101,97,100],.tk [40],.tk [41],.bl 32,.tk [123],.bl 32,.tk [115,116,101,112],.bl 32,.tk [115],.tk [44],.bl 32,.tk [115],.tk [59],.bl 32,.tk [125],.bl 32,.tk [111,112],.bl 32,.tk [97,100,100],.tk [40],.tk [121],.tk [58],.bl 32,.tk [105,110,116],.tk [44],.bl 32,.tk [122],.tk [58],.bl 32,.tk [105,110,116],.tk [41],.bl 32,.tk [123],.bl 32,.tk [115,116,101,112],.bl 32,.tk [115],.bl 32,.tk [43],.bl 32,.tk [121],.bl 32,.tk [43],.bl 32,.tk [122],.tk [44],.bl 32,.tk [115],.bl 32,.tk [43],.bl 32,.tk [121],.bl 32,.tk [43],.bl 32,.tk [122],.tk [59],.bl 32,.tk [125],.bl 32,.tk [125],.bl 10]
theorem s_cell(x1:List It)(h1:x1∈o_cell1)(x3:List It)(h3:x3∈o_cell3):SegP 5 (c_cell0++(x1++(c_cell2++(x3++c_cell4)))):=by
 simp only[o_cell1,List.mem_cons,List.not_mem_nil,or_false]at h1;rcases h1 with rfl|rfl
 all_goals (simp only[o_cell3,List.mem_cons,List.not_mem_nil,or_false]at h3;rcases h3 with rfl|rfl|rfl|rfl)
 all_goals exact segOf (fun nx=>by kernel_rfl) (fun p n rest=>by kernel_rfl)
def c_colorsB:List It:=[.tk [40],.tk [99],.tk [58],.bl 32,.tk [67,111,108,111,114],.bl 32,.tk [60,45],.bl 32,.tk [99,111,108,111,114],.tk [40],.tk [41],.tk [44],.bl 32,.tk [120],.tk [58],.bl 32,.tk [105,110,116],.bl 32,.tk [60,45],.bl 32,.tk [112,105,99,107],.bl 32,.tk [48],.tk [46,46],.tk [51],.tk [41]]
end Go.Rf
